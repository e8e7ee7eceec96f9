import Derived.Test.YtjcbpfhlgebgdaaDoorXL
import Derived.Test.YtjcbpfhlgebgdaaDoorPDel
import Derived.Test.YtjcbpfhlgebgdaaDoorXGSc
import Derived.Test.YtjcbpfhlgebgdaaDoorXO
set_option linter.unusedSimpArgs false
set_option linter.unusedVariables false
namespace Go.Proofs.YtjcbpfhlgebgdaaDoor
open Go.X Go.Eng
def cmpI (a b : Int) : Int := if a < b then -1 else if b < a then 1 else 0
theorem cmpI_w (a b : Int) : cmp_Compare (a, b) = some (cmpI a b) := by
 have hn : ∀ x, cmp_isNaN x = some false := fun x => by unfold cmp_isNaN; simp
 unfold cmp_Compare cmpI
 simp only [hn, Option.bind_some, br, cond_false]
 by_cases h1 : a < b
 ·simp [h1]
 ·by_cases h2 : b < a <;> simp [h1, h2]
theorem cmpU_w (a b : Int) : cmp_Compare_2 (a, b) = some (cmpI a b) := by
 have hn : ∀ x, cmp_isNaN_2 x = some false := fun x => by unfold cmp_isNaN_2; simp
 unfold cmp_Compare_2 cmpI
 simp only [hn, Option.bind_some, br, cond_false]
 by_cases h1 : a < b
 ·simp [h1]
 ·by_cases h2 : b < a <;> simp [h1, h2]
theorem cmpR_w (a b : Int) : packhorseref06_order (a, b) = some (cmpI a b) := by
 unfold packhorseref06_order cmpI
 simp only [br]
 by_cases h1 : a < b
 ·simp [h1]
 ·by_cases h2 : b < a <;> simp [h1, h2]
def orL : List Int → Int
 | [] => 0
 | x :: l => if x ≠ 0 then x else orL l
theorem or_w (l : List Int) (hl : l.length ≤ 1000) : cmp_Or l = some (orL l) := by
 refine W.eq ?_
 unfold cmp_Or
 refine W_loop (fun i : Int => 0 ≤ i ∧ i ≤ l.length ∧ orL l = orL (l.drop i.toNat)) (fun i => l.length - i.toNat) ?_ ⟨by omega, by omega, rfl⟩
 rintro i ⟨h0, h1, h2⟩
 refine W_if (fun h => ?_) fun h => ?_
 ·refine W_idx h0 h fun x hx => ?_
  have hd : l.drop i.toNat = x :: l.drop (i.toNat + 1) := by
   obtain ⟨q, rfl⟩ := List.getElem?_eq_some_iff.1 hx
   exact List.drop_eq_getElem_cons q
  rw [hd] at h2
  refine W_if (fun h3 => W_done (W_ret ?_)) fun h3 => ?_
  ·rw [h2]; unfold orL; rw [if_pos h3]
  ·refine W_op fun j hj => W_next ⟨⟨by omega, by omega, ?_⟩, by omega⟩
   rw [h2, show j.toNat = i.toNat + 1 from by omega]
   show (if _ then _ else _) = _
   rw [if_neg h3]
 ·refine W_done (W_ret ?_)
  rw [h2, List.drop_eq_nil_of_le (by omega)]
  rfl
theorem cmpI_or (a b : Int) : (a < b ∧ cmpI a b = -1) ∨ (a = b ∧ cmpI a b = 0) ∨ (b < a ∧ cmpI a b = 1) := by
 unfold cmpI
 (repeat' split) <;> omega
theorem orL_ne {x : Int} {l : List Int} (h : x ≠ 0) : orL (x :: l) = x := by
 show (if _ then _ else _) = _
 rw [if_pos h]
theorem orL_z {l : List Int} : orL (0 :: l) = orL l := by
 show (if _ then _ else _) = _
 rw [if_neg (by simp)]
def cmpID (a b : ID) : Int := orL [cmpI a.Node b.Node, cmpI a.Seq b.Seq, cmpI a.Off b.Off]
abbrev cmpD (a b : Mrk) : Int := cmpID a.ID b.ID
theorem bcmp_w (a b : ID) : bundle_Compare (a, b) = some (cmpID a b) := by
 unfold bundle_Compare
 simp only [cmpI_w, cmpU_w, Option.bind_some, or_w _ (show [_, _, _].length ≤ 1000 by simp)]
 rfl
theorem byID_w (x : Mrk) (id : ID) : seen_order_byID (x, id) = some (cmpID x.ID id) := by
 unfold seen_order_byID
 simp only [bcmp_w, Option.bind_some]
theorem cmpID_w (a b : ID) : packhorseref06_Compare (a, b) = some (cmpID a b) := by
 unfold packhorseref06_Compare cmpID
 simp only [cmpR_w, Option.bind_some, br]
 rcases cmpI_or a.Node b.Node with ⟨h, e⟩ | ⟨h, e⟩ | ⟨h, e⟩
 ·have : (a.Node != b.Node) = true := by simp; omega
  rw [e, this, orL_ne (by decide)]; rfl
 ·have : (a.Node != b.Node) = false := by simp; omega
  rw [e, this, orL_z]
  rcases cmpI_or a.Seq b.Seq with ⟨h', e⟩ | ⟨h', e⟩ | ⟨h', e⟩
  ·rw [e, orL_ne (by decide)]; simp [h']
  ·rw [e, orL_z]
   have h1 : ¬ a.Seq < b.Seq := by omega
   have h2 : ¬ b.Seq < a.Seq := by omega
   simp only [h1, h2, decide_false, cond_false]
   unfold orL orL
   split <;> simp_all
  ·rw [e, orL_ne (by decide)]
   have h1 : ¬ a.Seq < b.Seq := by omega
   simp [h', h1]
 ·have : (a.Node != b.Node) = true := by simp; omega
  rw [e, this, orL_ne (by decide)]; rfl
theorem cmpID_cases (a b : ID) : (cmpID a b < 0 ↔ a.Node < b.Node ∨ (a.Node = b.Node ∧ (a.Seq < b.Seq ∨ (a.Seq = b.Seq ∧ a.Off < b.Off)))) ∧ (cmpID a b = 0 ↔ a.Node = b.Node ∧ a.Seq = b.Seq ∧ a.Off = b.Off) := by
 unfold cmpID
 have e0 : orL [] = 0 := rfl
 rcases cmpI_or a.Node b.Node with ⟨h, e⟩ | ⟨h, e⟩ | ⟨h, e⟩
 ·rw [e, orL_ne (by decide)]; omega
 ·rw [e, orL_z]
  rcases cmpI_or a.Seq b.Seq with ⟨h', e⟩ | ⟨h', e⟩ | ⟨h', e⟩
  ·rw [e, orL_ne (by decide)]; omega
  ·rw [e, orL_z]
   rcases cmpI_or a.Off b.Off with ⟨h'', e⟩ | ⟨h'', e⟩ | ⟨h'', e⟩
   ·rw [e, orL_ne (by decide)]; omega
   ·rw [e, orL_z, e0]; omega
   ·rw [e, orL_ne (by decide)]; omega
  ·rw [e, orL_ne (by decide)]; omega
 ·rw [e, orL_ne (by decide)]; omega
theorem cmpD_trans {a b c : Mrk} (h1 : cmpD a b < 0) (h2 : cmpD b c < 0) : cmpD a c < 0 := by
 have a1 := cmpID_cases a.ID b.ID
 have a2 := cmpID_cases b.ID c.ID
 have a3 := cmpID_cases a.ID c.ID
 unfold cmpD at h1 h2 ⊢
 rw [a1.1] at h1
 rw [a2.1] at h2
 rw [a3.1]
 clear a1 a2 a3
 omega
def okI (id : ID) : Prop := (1 ≤ id.Node ∧ id.Node ≤ 16) ∧ id.Seq ≤ 1099511627776 ∧ 0 ≤ id.Off ∧ id.Off ≤ 19999
instance (d : ID) : Decidable (okI d) := by unfold okI; infer_instance
def okU (u : Int) : Prop := 0 ≤ u ∧ u ≤ 1099512676352
instance (u : Int) : Decidable (okU u) := by unfold okU; infer_instance
def okD (d : Mrk) : Prop := okI d.ID ∧ okU d.Until
instance (d : Mrk) : Decidable (okD d) := by unfold okD; infer_instance
theorem within_w (a b c d e f : Int) : bundle_within [⟨a, b, c⟩, ⟨d, e, f⟩] = some (decide ((b ≤ a ∧ a ≤ c) ∧ e ≤ d ∧ d ≤ f)) := by
 refine W.eq ?_
 unfold bundle_within
 refine W_loop (fun i : Int => i = 0 ∨ (i = 1 ∧ (b ≤ a ∧ a ≤ c)) ∨ (i = 2 ∧ (b ≤ a ∧ a ≤ c) ∧ e ≤ d ∧ d ≤ f)) (fun i => 2 - i.toNat) ?_ (.inl rfl)
 rintro i (rfl | ⟨rfl, h1⟩ | ⟨rfl, h1⟩)
 ·refine W_if (fun _ => ?_) fun hi => absurd (by simp) hi
  refine W_idx (by omega) (by simp) fun x hx => ?_
  have : x = ⟨a, b, c⟩ := by simpa using hx.symm
  subst this
  refine W_if (fun h => W_done (W_ret (Eq.symm (decide_eq_false (by dsimp only at h; omega))))) fun h2 => ?_
  refine W_if (fun h => W_done (W_ret (Eq.symm (decide_eq_false (by dsimp only at h; omega))))) fun h3 => ?_
  dsimp only at h2 h3
  exact W_op fun j hj => W_next ⟨.inr (.inl ⟨by omega, by omega⟩), by omega⟩
 ·refine W_if (fun _ => ?_) fun hi => absurd (by simp) hi
  refine W_idx (by omega) (by simp) fun x hx => ?_
  have : x = ⟨d, e, f⟩ := by simpa using hx.symm
  subst this
  refine W_if (fun h => W_done (W_ret (Eq.symm (decide_eq_false (by dsimp only at h; omega))))) fun h2 => ?_
  refine W_if (fun h => W_done (W_ret (Eq.symm (decide_eq_false (by dsimp only at h; omega))))) fun h3 => ?_
  dsimp only at h2 h3
  exact W_op fun j hj => W_next ⟨.inr (.inr ⟨by omega, by omega⟩), by omega⟩
 ·refine W_if (fun hi => absurd hi (by simp)) fun _ => ?_
  exact W_done (W_ret (Eq.symm (decide_eq_true h1)))
theorem checkID_w (id : ID) : bundle_CheckID id = some (if okI id then 0 else 2) := by
 unfold bundle_CheckID
 rw [within_w]
 simp only [Option.bind_some, br]
 by_cases h1 : (1 ≤ id.Node ∧ id.Node ≤ 16) ∧ 0 ≤ id.Off ∧ id.Off ≤ 19999
 ·by_cases h2 : 1099511627776 < id.Seq
  ·have : ¬ okI id := fun h => by unfold okI at h; omega
   rw [if_neg this]; simp [h1, h2]
  ·have : okI id := by unfold okI; omega
   rw [if_pos this]; simp [h1, h2]
 ·have : ¬ okI id := fun h => by unfold okI at h; omega
  rw [if_neg this]; simp only [decide_eq_false h1, Bool.not_false, cond_true]
theorem one_w (d : Mrk) : seen_one d = some (if okD d then 0 else 2) := by
 unfold seen_one
 rw [checkID_w]
 simp only [Option.bind_some, br]
 by_cases h1 : okI d.ID
 ·rw [if_pos h1]
  by_cases h2 : d.Until < 0
  ·have : ¬ okD d := fun h => by have := h.2; unfold okU at this; omega
   rw [if_neg this]; simp [h2]
  ·by_cases h3 : 1099512676352 < d.Until
   ·have : ¬ okD d := fun h => by have := h.2; unfold okU at this; omega
    rw [if_neg this]; simp [h2, h3]
   ·have : okD d := ⟨h1, by unfold okU; omega⟩
    rw [if_pos this]; simp [h2, h3]
 ·rw [if_neg h1, if_neg (fun h : okD d => h1 h.1)]; simp
theorem known_w (id : ID) : packhorseref16_known id = some (decide (okI id)) := by
 unfold packhorseref16_known okI
 simp only [br]
 by_cases h1 : 1 ≤ id.Node <;> by_cases h2 : id.Node ≤ 16 <;> by_cases h3 : id.Seq ≤ 1099511627776 <;> by_cases h4 : 0 ≤ id.Off <;> simp [h1, h2, h3, h4]
 omega
theorem lasts_w (u : Int) : packhorseref16_lasts u = some (decide (okU u)) := by
 unfold packhorseref16_lasts okU
 simp only [br]
 by_cases h1 : 0 ≤ u <;> simp [h1]
theorem check_eq (l : List Mrk) : packhorseref16_Check l = seen_Check l := by
 unfold packhorseref16_Check seen_Check
 congr 1
 congr 1
 funext i
 cases hx : idx l i with
 | none => simp only [Option.bind_none]
 | some x =>
  simp only [Option.bind_some, one_w, known_w, lasts_w, hx]
  by_cases h1 : okI x.ID
  ·by_cases h2 : okU x.Until
   ·simp only [show okD x from ⟨h1, h2⟩, h1, h2, if_true, decide_true, Bool.not_true, br, cond_false, bne_self_eq_false]
    cases hj : subI .i64 i 1 with
    | none => simp only [Option.bind_none]
    | some j =>
     simp only [Option.bind_some]
     cases hy : idx l j with
     | none => simp only [Option.bind_none]
     | some y => simp only [Option.bind_some, cmpID_w, bcmp_w]
   ·have : ¬ okD x := fun h => h2 h.2
    simp [this, h1, h2, br]
  ·have : ¬ okD x := fun h => h1 h.1
   simp [this, h1, br]
structure Ok (l : List Mrk) : Prop where
 get : ∀ {i j : Nat} {x y : Mrk}, l[i]? = some x → l[j]? = some y → i < j → cmpD x y < 0
theorem Ok.of {l : List Mrk} (h : ∀ (i : Nat) x y, l[i]? = some x → l[i + 1]? = some y → cmpD x y < 0) : Ok l := by
 refine ⟨fun {i j x y} hx hy hij => ?_⟩
 obtain ⟨k, rfl⟩ : ∃ k, j = i + 1 + k := ⟨j - (i + 1), by omega⟩
 clear hij
 induction k generalizing y with
 | zero => exact h i x y hx hy
 | succ k ih =>
  have hlt := (List.getElem?_eq_some_iff.1 hy).1
  have hz := List.getElem?_eq_getElem (show i + 1 + k < l.length by omega)
  exact cmpD_trans (ih hz) (h (i + 1 + k) _ y hz hy)
theorem check_s {l : List Mrk} (hl : l.length ≤ 1000) : W (seen_Check l) fun r => r.1 ≠ 0 ∨ (r = (0, 0) ∧ Ok l) := by
 unfold seen_Check
 refine W_loop (fun i : Int => (0 ≤ i ∧ i ≤ l.length) ∧ ∀ (k : Nat) x y, k + 1 < i.toNat → l[k]? = some x → l[k + 1]? = some y → cmpD x y < 0) (fun i => l.length - i.toNat) ?_ ⟨⟨by omega, by omega⟩, fun k x y hk => by simp at hk⟩
 rintro i ⟨⟨h0, h1⟩, h2⟩
 refine W_if (fun hi => ?_) fun hi => W_done (W_ret (.inr ⟨rfl, Ok.of fun k x y hx hy => h2 k x y ?_ hx hy⟩))
 ·refine W_idx h0 hi fun x hx => ?_
  rw [one_w]
  refine W_some ?_
  by_cases ho : okD x
  ·rw [if_pos ho]
   refine W_if (fun h => absurd rfl h) fun _ => ?_
   refine W_if (fun hp => ?_) fun hp => ?_
   ·refine W_op fun j hj => ?_
    refine W_idx (by omega) (by omega) fun y hy => ?_
    rw [bcmp_w]
    refine W_some ?_
    refine W_if (fun h => W_done (W_ret (.inl (by simp)))) fun hc => ?_
    refine W_op fun j' hj' => W_next ⟨⟨⟨by omega, by omega⟩, fun k u v hk hu hv => ?_⟩, by omega⟩
    by_cases hkk : k + 1 < i.toNat
    ·exact h2 k u v hkk hu hv
    ·have e1 : k + 1 = i.toNat := by omega
     have e2 : k = j.toNat := by omega
     rw [e1, hx] at hv
     rw [e2, hy] at hu
     cases hv
     cases hu
     change cmpID _ _ < 0
     omega
   ·refine W_op fun j' hj' => W_next ⟨⟨⟨by omega, by omega⟩, fun k u v hk hu hv => ?_⟩, by omega⟩
    omega
  ·rw [if_neg ho]
   refine W_if (fun _ => W_done (W_ret (.inl (by simp)))) fun h => absurd (by decide) h
 ·have := (List.getElem?_eq_some_iff.1 hy).1
  omega
theorem clone_w (l : List Mrk) (hl : l.length ≤ 1000) : slices_Clone l = some l := by
 unfold slices_Clone
 have : app 32 ([] : List Mrk) l = some l := by unfold app; rw [if_pos (by simp; omega)]; rfl
 rw [this]
 cases l with
 | nil => unfold nilq both; simp
 | cons c l => rfl
theorem wrapU {a : Int} (h0 : 0 ≤ a) (h1 : a ≤ 4000) : IntKind.wrap .u64 a = a := InR_u64 a ⟨h0, by omega⟩
theorem wrapI {a : Int} (h0 : 0 ≤ a) (h1 : a ≤ 4000) : IntKind.wrap .i64 a = a := InR_i64 a ⟨by omega, by omega⟩
theorem shr1 {a : Int} (h0 : 0 ≤ a) : shrI .u64 a 1 = some (a / 2) := by
 unfold shrI
 rw [if_pos (by omega), Int.fdiv_eq_ediv_of_nonneg _ (by decide)]
 rfl
def At (l : List Mrk) (d : Mrk) (p : Nat) : Prop := p ≤ l.length ∧ (∀ k x, k < p → l[k]? = some x → cmpD x d < 0) ∧ (∀ k x, p ≤ k → l[k]? = some x → ¬ cmpD x d < 0)
theorem At.uniq {l : List Mrk} {d : Mrk} {p q : Nat} (hp : At l d p) (hq : At l d q) : p = q := by
 obtain ⟨p1, p2, p3⟩ := hp
 obtain ⟨q1, q2, q3⟩ := hq
 rcases Nat.lt_trichotomy p q with h | h | h
 ·have hx := List.getElem?_eq_getElem (show p < l.length by omega)
  exact absurd (q2 p _ h hx) (p3 p _ (Nat.le_refl _) hx)
 ·exact h
 ·have hx := List.getElem?_eq_getElem (show q < l.length by omega)
  exact absurd (p2 q _ h hx) (q3 q _ (Nat.le_refl _) hx)
theorem search_s {l : List Mrk} {d : Mrk} (h : Ok l) (hl : l.length ≤ 1000) : W (slices_BinarySearchFunc_f143 (l, d.ID)) fun r =>
  ∃ p : Nat, r.1 = p ∧ At l d p ∧ ((r.2 = true ∧ ∃ x, l[p]? = some x ∧ cmpD x d = 0) ∨ (r.2 = false ∧ ∀ x, l[p]? = some x → cmpD x d ≠ 0)) := by
 unfold slices_BinarySearchFunc_f143
 refine W_loop (fun s : Int × Int => (0 ≤ s.1 ∧ s.1 ≤ s.2 ∧ s.2 ≤ l.length) ∧ (∀ k x, k < s.1.toNat → l[k]? = some x → cmpD x d < 0) ∧ (∀ k x, s.2.toNat ≤ k → l[k]? = some x → ¬ cmpD x d < 0)) (fun s => s.2.toNat - s.1.toNat) ?_ ⟨⟨by simp, by simp, by simp⟩, fun k x hk => by simp at hk, fun k x hk hx => by
  have := (List.getElem?_eq_some_iff.1 hx).1
  simp at hk
  omega⟩
 rintro ⟨i, j⟩ ⟨⟨h0, h1, h2⟩, h3, h4⟩
 dsimp only at h0 h1 h2 h3 h4 ⊢
 refine W_if (fun hij => ?_) fun hij => ?_
 ·refine W_op fun c hc => ?_
  rw [wrapU (a := c) (by omega) (by omega)]
  refine W_eq (shr1 (a := c) (by omega)) ?_
  have hb : 0 ≤ c / 2 ∧ i ≤ c / 2 ∧ c / 2 < j := by omega
  generalize c / 2 = m at hb ⊢
  rw [wrapI (a := m) (by omega) (by omega)]
  refine W_idx (by omega) (by omega) fun x hx => ?_
  refine W_eq (byID_w x d.ID) ?_
  refine W_if (fun hlt => ?_) fun hlt => ?_
  ·refine W_op fun m' hm' => W_next ⟨⟨⟨by dsimp only; omega, by dsimp only; omega, h2⟩, fun k y hk hy => ?_, h4⟩, by dsimp only; omega⟩
   dsimp only at hk
   rcases Nat.lt_or_ge k m.toNat with q | q
   ·exact cmpD_trans (h.get hy hx q) hlt
   ·have : k = m.toNat := by omega
    subst this
    rw [hy] at hx
    cases hx
    exact hlt
  ·refine W_next ⟨⟨⟨h0, by dsimp only; omega, by dsimp only; omega⟩, h3, fun k y hk hy => ?_⟩, by dsimp only; omega⟩
   dsimp only at hk
   rcases Nat.lt_or_ge m.toNat k with q | q
   ·exact fun hc => hlt (cmpD_trans (h.get hx hy q) hc)
   ·have : k = m.toNat := by omega
    subst this
    rw [hy] at hx
    cases hx
    exact hlt
 ·have hji : j = i := by omega
  subst hji
  refine W_done ?_
  refine W_if (fun hlt => ?_) fun hlt => ?_
  ·refine W_idx (by omega) (by omega) fun x hx => ?_
   refine W_eq (byID_w x d.ID) (W_ret ⟨j.toNat, by dsimp only; omega, ⟨by omega, h3, h4⟩, ?_⟩)
   by_cases hr0 : cmpD x d = 0
   ·exact .inl ⟨by simp [hr0], x, hx, hr0⟩
   ·refine .inr ⟨by simpa using hr0, fun y hy => ?_⟩
    rw [hy] at hx
    cases hx
    exact hr0
  ·refine W_ret ⟨j.toNat, by dsimp only; omega, ⟨by omega, h3, h4⟩, .inr ⟨rfl, fun y hy => ?_⟩⟩
   have := (List.getElem?_eq_some_iff.1 hy).1
   omega
theorem app_w {α : Type} {n : Nat} {l m : List α} (h : (l.length + m.length) * n ≤ 140737488355328) : app n l m = some (l ++ m) := by unfold app; rw [if_pos h]
theorem slc_w {α : Type} {l : List α} {lo hi : Int} (h : 0 ≤ lo ∧ lo ≤ hi ∧ hi ≤ l.length) : slc l lo hi = some ((l.take hi.toNat).drop lo.toNat) := by
 unfold slc; rw [if_pos h]
def FND (l : List Mrk) (d : Mrk) (r : Int × Bool) : Prop := ∃ p : Nat, r.1 = p ∧ At l d p ∧ ((r.2 = true ∧ ∃ x, l[p]? = some x ∧ cmpD x d = 0) ∨ (r.2 = false ∧ ∀ x, l[p]? = some x → cmpD x d ≠ 0))
theorem FND.det {l : List Mrk} {d : Mrk} {r r' : Int × Bool} (h : FND l d r) (h' : FND l d r') : r = r' := by
 obtain ⟨p, h1, h2, h3⟩ := h
 obtain ⟨q, k1, k2, k3⟩ := h'
 have := h2.uniq k2
 subst this
 refine Prod.ext (by rw [h1, k1]) ?_
 rcases h3 with ⟨a, x, b, c⟩ | ⟨a, b⟩ <;> rcases k3 with ⟨a', x', b', c'⟩ | ⟨a', b'⟩
 ·rw [a, a']
 ·exact absurd c (b' x b)
 ·exact absurd c' (b x' b')
 ·rw [a, a']
theorem find_s {l : List Mrk} {d : Mrk} (h : Ok l) (hl : l.length ≤ 1000) : W (seen_find (l, d.ID)) (FND l d) := by
 unfold seen_find
 refine W_call (search_s (d := d) h hl) fun r hr => ?_
 obtain ⟨r1, r2⟩ := r
 exact W_ret hr
theorem eqID_w (a b : ID) : ((a.Node == b.Node) && ((a.Seq == b.Seq) && (a.Off == b.Off))) = decide (cmpID a b = 0) := by
 have h := (cmpID_cases a b).2
 by_cases hz : cmpID a b = 0
 ·rw [decide_eq_true hz]
  obtain ⟨h1, h2, h3⟩ := h.1 hz
  simp [h1, h2, h3]
 ·rw [decide_eq_false hz]
  have : ¬ (a.Node = b.Node ∧ a.Seq = b.Seq ∧ a.Off = b.Off) := fun q => hz (h.2 q)
  cases hq : ((a.Node == b.Node) && ((a.Seq == b.Seq) && (a.Off == b.Off))) with
  | false => rfl
  | true => exact absurd (by simpa using hq) this
theorem place_s {l : List Mrk} {d : Mrk} (hok : Ok l) (hl : l.length ≤ 1000) : W (packhorseref16_place (l, d.ID)) (FND l d) := by
 unfold packhorseref16_place
 refine W_loop (fun i : Int => (0 ≤ i ∧ i ≤ l.length) ∧ ∀ k x, k < i.toNat → l[k]? = some x → cmpD x d < 0) (fun i => l.length - i.toNat) ?_ ⟨⟨by omega, by omega⟩, fun k x hk => by simp at hk⟩
 rintro i ⟨⟨h0, h1⟩, h2⟩
 have fin : (∀ x, l[i.toNat]? = some x → ¬ cmpD x d < 0) → At l d i.toNat := fun hge => ⟨by omega, h2, fun k x hk hx => by
  rcases Nat.eq_or_lt_of_le hk with q | q
  ·subst q; exact hge x hx
  ·have hlt := (List.getElem?_eq_some_iff.1 hx).1
   have hy := List.getElem?_eq_getElem (show i.toNat < l.length by omega)
   exact fun hc => hge _ hy (cmpD_trans (hok.get hy hx q) hc)⟩
 refine W_if (fun hi => ?_) fun hi => ?_
 ·refine W_idx h0 hi fun x hx => ?_
  refine W_eq (cmpID_w x.ID d.ID) ?_
  refine W_if (fun hlt => ?_) fun hlt => ?_
  ·refine W_op fun j hj => W_next ⟨⟨⟨by omega, by omega⟩, fun k y hk hy => ?_⟩, by omega⟩
   by_cases hkk : k < i.toNat
   ·exact h2 k y hkk hy
   ·have : k = i.toNat := by omega
    subst this
    rw [hx] at hy; cases hy; exact hlt
  ·refine W_done ?_
   have hge : ∀ y, l[i.toNat]? = some y → ¬ cmpD y d < 0 := fun y hy => by rw [hx] at hy; cases hy; exact hlt
   refine W_if (fun _ => ?_) fun h => absurd hi h
   refine W_idx h0 hi fun y hy => ?_
   have : y = x := by simpa [hx] using hy.symm
   subst this
   rw [eqID_w]
   refine W_ret ⟨i.toNat, by dsimp only; omega, fin hge, ?_⟩
   by_cases hz : cmpID y.ID d.ID = 0
   ·exact .inl ⟨decide_eq_true hz, y, hx, hz⟩
   ·exact .inr ⟨decide_eq_false hz, fun z hz' => by rw [hx] at hz'; cases hz'; exact hz⟩
 ·refine W_done ?_
  have hnone : ∀ y, l[i.toNat]? = some y → False := fun y hy => by
   have := (List.getElem?_eq_some_iff.1 hy).1
   omega
  refine W_if (fun h => absurd h hi) fun _ => ?_
  exact W_ret ⟨i.toNat, by dsimp only; omega, fin fun y hy => (hnone y hy).elim, .inr ⟨rfl, fun y hy => (hnone y hy).elim⟩⟩
theorem check_k {l : List Mrk} (hl : l.length ≤ 1000) : ∃ c1 c2 : Int, seen_Check l = some (c1, c2) ∧ (c1 = 0 → Ok l) := by
 obtain ⟨⟨c1, c2⟩, h1, h2⟩ := check_s hl
 refine ⟨c1, c2, h1, fun h => ?_⟩
 rcases h2 with h2 | h2
 ·exact absurd h h2
 ·exact h2.2
def ADDR (l : List Mrk) (d : Mrk) (c1 : Int) (r : List Mrk × Int) : Prop := (c1 ≠ 0 ∧ r = ([], c1)) ∨ (c1 = 0 ∧ ¬ okD d ∧ r = ([], 2)) ∨
 (c1 = 0 ∧ okD d ∧ ∃ q, FND l d q ∧ r = if q.2 then ([], 9) else (l.take q.1.toNat ++ [d] ++ l.drop q.1.toNat, 0))
theorem ADDR.det {l : List Mrk} {d : Mrk} {c1 : Int} {r r' : List Mrk × Int} (h : ADDR l d c1 r) (h' : ADDR l d c1 r') : r = r' := by
 rcases h with ⟨a1, a3⟩ | ⟨a1, a2, a3⟩ | ⟨a1, a2, q, a3, a4⟩ <;> rcases h' with ⟨b1, b3⟩ | ⟨b1, b2, b3⟩ | ⟨b1, b2, q', b3, b4⟩
 ·rw [a3, b3]
 ·exact absurd b1 a1
 ·exact absurd b1 a1
 ·exact absurd a1 b1
 ·rw [a3, b3]
 ·exact absurd b2 a2
 ·exact absurd a1 b1
 ·exact absurd a2 b2
 ·have := a3.det b3
  subst this
  rw [a4, b4]
theorem ADDR.len {l : List Mrk} {d : Mrk} {c1 : Int} {r : List Mrk × Int} (h : ADDR l d c1 r) (hl : l.length ≤ 1000) : r.1.length ≤ 1001 := by
 rcases h with ⟨_, rfl⟩ | ⟨_, _, rfl⟩ | ⟨_, _, q, _, rfl⟩
 ·simp
 ·simp
 ·split
  ·simp
  ·simp; omega
theorem both_self {α : Type} (o : Option α) : both o o = o := by unfold both; simp
theorem add_s {l : List Mrk} {d : Mrk} (hl : l.length ≤ 1000) {c1 c2 : Int} (hc : seen_Check l = some (c1, c2)) (hok : c1 = 0 → Ok l) : W (seen_Add (l, d.ID, d.Until)) (ADDR l d c1) := by
 unfold seen_Add
 refine W_eq hc ?_
 dsimp only
 refine W_if (fun hne => W_ret (.inl ⟨hne, rfl⟩)) fun heq => ?_
 have heq : c1 = 0 := by simpa using heq
 rw [one_w]
 refine W_some ?_
 by_cases ho : okD d
 ·have ho' : okD ⟨d.ID, d.Until⟩ := ho
  rw [if_pos ho']
  refine W_if (fun h => absurd rfl h) fun _ => ?_
  refine W_call (find_s (d := d) (hok heq) hl) fun r hr => ?_
  obtain ⟨r1, r2⟩ := r
  dsimp only
  cases r2 with
  | true => exact W_brT (W_ret (.inr (.inr ⟨heq, ho, _, hr, rfl⟩)))
  | false =>
   refine W_brF ?_
   rw [both_self, both_self]
   refine W_eq (clone_w l hl) ?_
   have hr' := hr
   obtain ⟨p, hp, hat, _⟩ := hr
   dsimp only at hp
   subst hp
   have hpl := hat.1
   have hi : insertX l (p : Int) [⟨d.ID, d.Until⟩] = some (l.take p ++ [d] ++ l.drop p) := by
    unfold insertX
    dsimp only
    rw [if_pos (by omega)]
    rfl
   exact W_eq hi (W_ret (.inr (.inr ⟨heq, ho, _, hr', rfl⟩)))
 ·have ho' : ¬ okD ⟨d.ID, d.Until⟩ := ho
  rw [if_neg ho']
  exact W_if (fun _ => W_ret (.inr (.inl ⟨heq, ho, rfl⟩))) fun h => absurd (by decide) h
theorem refAdd_s {l : List Mrk} {d : Mrk} (hl : l.length ≤ 1000) {c1 c2 : Int} (hc : seen_Check l = some (c1, c2)) (hok : c1 = 0 → Ok l) : W (packhorseref16_Add (l, d.ID, d.Until)) (ADDR l d c1) := by
 unfold packhorseref16_Add
 refine W_eq ((check_eq l).trans hc) ?_
 dsimp only
 refine W_if (fun hne => W_ret (.inl ⟨hne, rfl⟩)) fun heq => ?_
 have heq : c1 = 0 := by simpa using heq
 refine W_eq (known_w d.ID) ?_
 by_cases hi : okI d.ID
 case neg =>
  rw [decide_eq_false hi]
  exact W_brnot (W_brF (W_ret (.inr (.inl ⟨heq, fun h => hi h.1, rfl⟩))))
 rw [decide_eq_true hi]
 refine W_brnot (W_brT ?_)
 refine W_eq (lasts_w d.Until) ?_
 by_cases hu : okU d.Until
 case neg =>
  rw [decide_eq_false hu]
  exact W_brnot (W_brF (W_ret (.inr (.inl ⟨heq, fun h => hu h.2, rfl⟩))))
 rw [decide_eq_true hu]
 refine W_brnot (W_brT ?_)
 refine W_call (place_s (d := d) (hok heq) hl) fun r hr => ?_
 obtain ⟨r1, r2⟩ := r
 dsimp only
 cases r2 with
 | true => exact W_brT (W_ret (.inr (.inr ⟨heq, ⟨hi, hu⟩, _, hr, rfl⟩)))
 | false =>
  refine W_brF ?_
  have hr' := hr
  obtain ⟨p, hp, hat, _⟩ := hr
  dsimp only at hp
  subst hp
  have hpl := hat.1
  refine W_eq (slc_w (by omega)) ?_
  refine W_eq (app_w (by simp; omega)) ?_
  refine W_eq (app_w (by simp; omega)) ?_
  refine W_eq (slc_w (by omega)) ?_
  refine W_eq (app_w (by simp; omega)) ?_
  refine W_ret (.inr (.inr ⟨heq, ⟨hi, hu⟩, _, hr', ?_⟩))
  dsimp only
  rw [show (l.length : Int).toNat = l.length from by omega, List.take_length]
  simp
def HASR (l : List Mrk) (d : Mrk) (c1 : Int) (r : Bool × Int) : Prop := (c1 ≠ 0 ∧ r = (false, c1)) ∨ (c1 = 0 ∧ ∃ q, FND l d q ∧ r = (q.2, 0))
theorem HASR.det {l : List Mrk} {d : Mrk} {c1 : Int} {r r' : Bool × Int} (h : HASR l d c1 r) (h' : HASR l d c1 r') : r = r' := by
 rcases h with ⟨a1, a3⟩ | ⟨a1, q, a3, a4⟩ <;> rcases h' with ⟨b1, b3⟩ | ⟨b1, q', b3, b4⟩
 ·rw [a3, b3]
 ·exact absurd b1 a1
 ·exact absurd a1 b1
 ·have := a3.det b3
  subst this
  rw [a4, b4]
theorem has_s {l : List Mrk} {d : Mrk} (hl : l.length ≤ 1000) {c1 c2 : Int} (hc : seen_Check l = some (c1, c2)) (hok : c1 = 0 → Ok l) : W (seen_Has (l, d.ID)) (HASR l d c1) := by
 unfold seen_Has
 refine W_eq hc ?_
 dsimp only
 refine W_if (fun hne => W_ret (.inl ⟨hne, rfl⟩)) fun heq => ?_
 have heq : c1 = 0 := by simpa using heq
 exact W_call (find_s (d := d) (hok heq) hl) fun r hr => W_ret (.inr ⟨heq, _, hr, rfl⟩)
theorem refHas_s {l : List Mrk} {d : Mrk} (hl : l.length ≤ 1000) {c1 c2 : Int} (hc : seen_Check l = some (c1, c2)) (hok : c1 = 0 → Ok l) : W (packhorseref16_Has (l, d.ID)) (HASR l d c1) := by
 unfold packhorseref16_Has
 refine W_eq ((check_eq l).trans hc) ?_
 dsimp only
 refine W_if (fun hne => W_ret (.inl ⟨hne, rfl⟩)) fun heq => ?_
 have heq : c1 = 0 := by simpa using heq
 exact W_call (place_s (d := d) (hok heq) hl) fun r hr => W_ret (.inr ⟨heq, _, hr, rfl⟩)
theorem same_s (a : List Mrk) (ha : a.length ≤ 1001) : W (packhorsekit_SameMarks (a, a)) fun r => r = true := by
 unfold packhorsekit_SameMarks
 refine W_if (fun h => absurd rfl h) fun _ => ?_
 refine W_loop (fun i : Int => 0 ≤ i ∧ i ≤ a.length) (fun i => a.length - i.toNat) ?_ ⟨by omega, by omega⟩
 rintro i ⟨h0, h1⟩
 refine W_if (fun hi => ?_) fun hi => W_done (W_ret rfl)
 refine W_idx h0 hi fun x hx => ?_
 refine W_idx h0 hi fun y hy => ?_
 have : y = x := by simpa [hx] using hy.symm
 subst this
 simp only [beq_self_eq_true, Bool.and_self]
 refine W_brnot (W_brT ?_)
 refine W_op fun j hj => W_next ⟨⟨by omega, by omega⟩, by omega⟩
theorem delF_w (l : List Mrk) (now : Int) (hl : l.length ≤ 1000) : W (slices_DeleteFunc_f95 l now) fun r => r = (l.filter (fun d => !decide (d.Until ≤ now)), now) :=
 delG_s (F := seen_Forget_1) (p := fun d => decide (d.Until ≤ now)) (fun d => rfl) _ l hl
theorem filter_snoc {α : Type} {l : List α} {p : α → Bool} {i : Nat} {x : α} (hx : l[i]? = some x) : (l.take (i + 1)).filter p = (l.take i).filter p ++ (if p x then [x] else []) := by
 rw [List.take_add_one, hx, List.filter_append]
 cases h : p x <;> simp [h]
theorem filter_len {α : Type} (l : List α) (p : α → Bool) (i : Nat) : ((l.take i).filter p).length ≤ l.length :=
 Nat.le_trans (List.length_filter_le _ _) (by simp; omega)
def FGT (l : List Mrk) (now c1 : Int) : List Mrk × Int × Int := if c1 ≠ 0 then ([], 0, c1) else (l.filter (fun d => !decide (d.Until ≤ now)), (l.length : Int) - (l.filter (fun d => !decide (d.Until ≤ now))).length, 0)
theorem forget_s {l : List Mrk} {now : Int} (hl : l.length ≤ 1000) {c1 c2 : Int} (hc : seen_Check l = some (c1, c2)) : W (seen_Forget (l, now)) fun r => r = FGT l now c1 := by
 unfold seen_Forget FGT
 refine W_eq hc ?_
 dsimp only
 refine W_if (fun h => W_ret (by rw [if_pos h])) fun h => ?_
 refine W_eq (clone_w l hl) ?_
 refine W_call (delF_w l now hl) fun r hr => ?_
 subst hr
 have := List.length_filter_le (fun d : Mrk => !decide (d.Until ≤ now)) l
 dsimp only
 refine W_op fun c hc => W_ret ?_
 rw [if_neg h, hc]
theorem refForget_s {l : List Mrk} {now : Int} (hl : l.length ≤ 1000) {c1 c2 : Int} (hc : seen_Check l = some (c1, c2)) : W (packhorseref16_Forget (l, now)) fun r => r = FGT l now c1 := by
 unfold packhorseref16_Forget FGT
 refine W_eq ((check_eq l).trans hc) ?_
 dsimp only
 refine W_if (fun h => W_ret (by rw [if_pos h])) fun h => ?_
 rw [if_neg h]
 refine W_loop (fun s : List Mrk × Int => (0 ≤ s.2 ∧ s.2 ≤ l.length) ∧ s.1 = (l.take s.2.toNat).filter (fun d => !decide (d.Until ≤ now))) (fun s => l.length - s.2.toNat) ?_ ⟨⟨by simp, by simp⟩, by simp⟩
 rintro ⟨s, i⟩ ⟨⟨h0, h1⟩, h2⟩
 dsimp only at h0 h1 h2 ⊢
 have hfl := filter_len l (fun d => !decide (d.Until ≤ now)) i.toNat
 rw [← h2] at hfl
 refine W_if (fun hi => ?_) fun hi => ?_
 ·refine W_idx h0 hi fun x hx => ?_
  have hsn := filter_snoc (p := fun d : Mrk => !decide (d.Until ≤ now)) hx
  rw [← h2] at hsn
  refine W_if (fun hlt => ?_) fun hlt => ?_
  ·refine W_idx h0 hi fun y hy => ?_
   have : y = x := by simpa [hx] using hy.symm
   subst this
   refine W_eq (app_w (by simp; omega)) ?_
   refine W_op fun j hj => W_next ⟨⟨⟨by dsimp only; omega, by dsimp only; omega⟩, ?_⟩, by dsimp only; omega⟩
   dsimp only
   rw [show j.toNat = i.toNat + 1 from by omega, hsn, if_pos (by simp; omega)]
  ·refine W_op fun j hj => W_next ⟨⟨⟨by dsimp only; omega, by dsimp only; omega⟩, ?_⟩, by dsimp only; omega⟩
   dsimp only
   rw [show j.toNat = i.toNat + 1 from by omega, hsn, if_neg (by simp; omega)]; simp
 ·refine W_done ?_
  rw [List.take_of_length_le (by omega)] at h2
  subst h2
  refine W_op fun c hc => W_ret ?_
  rw [hc]
theorem next_eq (l : List Mrk) : packhorseref16_Next l = seen_Next l := by
 unfold packhorseref16_Next seen_Next
 rw [check_eq]
theorem next_s {l : List Mrk} (hl : l.length ≤ 1000) : ∃ v1 v2 : Int, seen_Next l = some (v1, v2) := by
 obtain ⟨c1, c2, hc, _⟩ := check_k hl
 have : W (seen_Next l) fun _ => True := by
  unfold seen_Next
  refine W_eq hc ?_
  dsimp only
  refine W_if (fun h => W_ret trivial) fun h => ?_
  refine W_if (fun h => W_ret trivial) fun hne => ?_
  refine W_idx (by omega) (by omega) fun x hx => ?_
  refine W_loop (fun s : Int × Int => 0 ≤ s.2 ∧ s.2 ≤ l.length) (fun s => l.length - s.2.toNat) ?_ ⟨by simp, by simp⟩
  rintro ⟨m, i⟩ ⟨h0, h1⟩
  dsimp only at h0 h1 ⊢
  refine W_if (fun hi => ?_) fun hi => W_done (W_ret trivial)
  refine W_idx h0 hi fun y hy => ?_
  exact W_op fun j hj => W_next ⟨⟨by dsimp only; omega, by dsimp only; omega⟩, by dsimp only; omega⟩
 obtain ⟨⟨v1, v2⟩, h, _⟩ := this
 exact ⟨v1, v2, h⟩
theorem check1 : seen_Check [⟨⟨2, 5, 0⟩, 90⟩] = some (0, 0) := by
 refine W.eq ?_
 unfold seen_Check
 refine W_loop (fun i : Int => i = 0 ∨ i = 1) (fun i => 1 - i.toNat) ?_ (.inl rfl)
 rintro i (rfl | rfl)
 ·refine W_if (fun _ => ?_) fun h => absurd (by simp) h
  refine W_idx (by omega) (by simp) fun x hx => ?_
  have : x = ⟨⟨2, 5, 0⟩, 90⟩ := by simpa using hx.symm
  subst this
  rw [one_w, if_pos (by decide)]
  refine W_some ?_
  refine W_if (fun h => absurd rfl h) fun _ => ?_
  refine W_if (fun h => absurd h (by decide)) fun _ => ?_
  exact W_op fun j hj => W_next ⟨.inr (by omega), by omega⟩
 ·refine W_if (fun h => absurd h (by simp)) fun _ => ?_
  exact W_done (W_ret rfl)
theorem check2 : seen_Check two = some (0, 0) := by
 refine W.eq ?_
 unfold seen_Check two
 refine W_loop (fun i : Int => i = 0 ∨ i = 1 ∨ i = 2) (fun i => 2 - i.toNat) ?_ (.inl rfl)
 rintro i (rfl | rfl | rfl)
 ·refine W_if (fun _ => ?_) fun h => absurd (by simp) h
  refine W_idx (by omega) (by simp) fun x hx => ?_
  have : x = ⟨⟨2, 3, 0⟩, 50⟩ := by simpa using hx.symm
  subst this
  rw [one_w, if_pos (by decide)]
  refine W_some ?_
  refine W_if (fun h => absurd rfl h) fun _ => ?_
  refine W_if (fun h => absurd h (by decide)) fun _ => ?_
  exact W_op fun j hj => W_next ⟨.inr (.inl (by omega)), by omega⟩
 ·refine W_if (fun _ => ?_) fun h => absurd (by simp) h
  refine W_idx (by omega) (by simp) fun x hx => ?_
  have : x = ⟨⟨2, 5, 0⟩, 90⟩ := by simpa using hx.symm
  subst this
  rw [one_w, if_pos (by decide)]
  refine W_some ?_
  refine W_if (fun h => absurd rfl h) fun _ => ?_
  refine W_if (fun _ => ?_) fun h => absurd (by decide) h
  refine W_op fun j hj => ?_
  have : j = 0 := by omega
  subst this
  refine W_idx (by omega) (by simp) fun y hy => ?_
  have : y = ⟨⟨2, 3, 0⟩, 50⟩ := by simpa using hy.symm
  subst this
  rw [bcmp_w]
  refine W_some ?_
  refine W_if (fun h => absurd h (by decide)) fun _ => ?_
  exact W_op fun j hj => W_next ⟨.inr (.inr (by omega)), by omega⟩
 ·refine W_if (fun h => absurd h (by simp)) fun _ => ?_
  exact W_done (W_ret rfl)
theorem ok1 : Ok [⟨⟨2, 5, 0⟩, 90⟩] := by
 obtain ⟨c1, c2, hc, h⟩ := check_k (l := [⟨⟨2, 5, 0⟩, 90⟩]) (by simp)
 rw [check1] at hc
 cases hc
 exact h rfl
theorem fnd3 {q : Int × Bool} (h : FND [⟨⟨2, 5, 0⟩, 90⟩] ⟨⟨2, 3, 0⟩, 50⟩ q) : q = (0, false) := by
 refine h.det ⟨0, rfl, ⟨by simp, fun k x hk => by omega, fun k x _ hx => ?_⟩, .inr ⟨rfl, fun x hx => ?_⟩⟩
 ·have hk := (List.getElem?_eq_some_iff.1 hx).1
  have : k = 0 := by simp at hk; exact hk
  subst this
  have : x = ⟨⟨2, 5, 0⟩, 90⟩ := by simpa using hx.symm
  subst this; decide
 ·have : x = ⟨⟨2, 5, 0⟩, 90⟩ := by simpa using hx.symm
  subst this; decide
theorem fnd5 {q : Int × Bool} {u : Int} (h : FND [⟨⟨2, 5, 0⟩, 90⟩] ⟨⟨2, 5, 0⟩, u⟩ q) : q = (0, true) := by
 refine h.det ⟨0, rfl, ⟨by simp, fun k x hk => by omega, fun k x _ hx => ?_⟩, .inl ⟨rfl, _, rfl, ?_⟩⟩
 ·have hk := (List.getElem?_eq_some_iff.1 hx).1
  have : k = 0 := by simp at hk; exact hk
  subst this
  have : x = ⟨⟨2, 5, 0⟩, 90⟩ := by simpa using hx.symm
  subst this; exact show ¬ cmpID ⟨2, 5, 0⟩ ⟨2, 5, 0⟩ < 0 by decide
 ·exact show cmpID ⟨2, 5, 0⟩ ⟨2, 5, 0⟩ = 0 by decide
theorem text2 : seen_Text two = some (twoT, 0) := by unfold seen_Text; rw [if_pos rfl]
theorem awake_w : packhorselaw16_awake () = some true := by
 refine W.eq ?_
 unfold packhorselaw16_awake
 have hm : ∀ s u, packhorselaw16_mark (s, u) = some ⟨⟨2, s, 0⟩, u⟩ := fun s u => rfl
 refine W_eq (hm 5 90) ?_
 refine W_eq (hm 3 50) ?_
 refine W_eq (hm 5 90) ?_
 refine W_call (add_s (l := [⟨⟨2, 5, 0⟩, 90⟩]) (d := ⟨⟨2, 3, 0⟩, 50⟩) (by simp) check1 (fun _ => ok1)) fun a ha => ?_
 have ha : a = (two, 0) := by
  rcases ha with ⟨h, _⟩ | ⟨_, h, _⟩ | ⟨_, _, q, hq, h⟩
  ·exact absurd rfl h
  ·exact absurd (by decide) h
  ·have := fnd3 hq
   subst this
   exact h
 subst ha
 dsimp only
 refine W_call (has_s (l := [⟨⟨2, 5, 0⟩, 90⟩]) (d := ⟨⟨2, 5, 0⟩, 0⟩) (by simp) check1 (fun _ => ok1)) fun a ha => ?_
 have ha : a = (true, 0) := by
  rcases ha with ⟨h, _⟩ | ⟨_, q, hq, h⟩
  ·exact absurd rfl h
  ·have := fnd5 hq
   subst this
   exact h
 subst ha
 dsimp only
 refine W_call (forget_s (l := two) (now := 50) (by simp [two]) check2) fun a ha => ?_
 have ha : a = ([⟨⟨2, 5, 0⟩, 90⟩], 1, 0) := by
  rw [ha]; rfl
 subst ha
 dsimp only
 refine W_eq text2 ?_
 refine W_eq check2 ?_
 dsimp only
 refine W_if (fun _ => ?_) fun h => absurd rfl h
 refine W_call (same_s two (by simp [two])) fun b hb => ?_
 subst hb
 refine W_brT ?_
 refine W_if (fun _ => ?_) fun h => absurd rfl h
 refine W_brT ?_
 refine W_if (fun _ => ?_) fun h => absurd rfl h
 refine W_if (fun _ => ?_) fun h => absurd rfl h
 refine W_call (same_s [⟨⟨2, 5, 0⟩, 90⟩] (by simp)) fun b hb => ?_
 subst hb
 refine W_brT ?_
 refine W_if (fun _ => ?_) fun h => absurd rfl h
 refine W_br (fun _ => ?_) fun h => absurd h (by decide)
 refine W_if (fun _ => ?_) fun h => absurd rfl h
 exact W_ret rfl
theorem seenChanges_w (l : List Mrk) (id : ID) (until' now : Int) : W (packhorselaw16_SeenChanges (l, id, until', now)) fun r => r = true := by
 unfold packhorselaw16_SeenChanges
 refine W_if (fun h => W_eq awake_w (W_ret rfl)) fun hlen => ?_
 have hl : l.length ≤ 1000 := by omega
 have ho : packhorsekit_OwnMarks l = some l := by
  unfold packhorsekit_OwnMarks
  rw [app_w (by simp; omega)]
  rfl
 refine W_eq ho ?_
 obtain ⟨c1, c2, hc, hok⟩ := check_k hl
 refine W_eq hc ?_
 dsimp only
 refine W_eq ((check_eq l).trans hc) ?_
 dsimp only
 refine W_if (fun h => absurd rfl h) fun _ => W_if (fun h => absurd rfl h) fun _ => ?_
 refine W_call (add_s (d := ⟨id, until'⟩) hl hc hok) fun r hr => ?_
 refine W_call (refAdd_s (d := ⟨id, until'⟩) hl hc hok) fun r' hr' => ?_
 have := hr.det hr'
 subst this
 obtain ⟨r1, r2⟩ := r
 dsimp only
 refine W_call (same_s r1 (hr.len hl)) fun b hb => ?_
 subst hb
 refine W_brnot (W_brT ?_)
 refine W_if (fun h => absurd rfl h) fun _ => ?_
 have hf1 : (FGT l now c1).1.length ≤ 1001 := by
  unfold FGT
  split
  ·simp
  ·exact Nat.le_trans (List.length_filter_le _ _) (by omega)
 refine W_call (forget_s (now := now) hl hc) fun r hr => ?_
 refine W_call (refForget_s (now := now) hl hc) fun r' hr' => ?_
 rw [← hr] at hr' hf1
 subst hr'
 clear hr
 obtain ⟨r1, r2, r3⟩ := r'
 dsimp only at hf1 ⊢
 refine W_call (same_s r1 hf1) fun b hb => ?_
 subst hb
 refine W_brnot (W_brT ?_)
 refine W_if (fun h => absurd rfl h) fun _ => ?_
 refine W_if (fun h => absurd rfl h) fun _ => ?_
 refine W_call (has_s (d := ⟨id, 0⟩) hl hc hok) fun r hr => ?_
 refine W_call (refHas_s (d := ⟨id, 0⟩) hl hc hok) fun r' hr' => ?_
 have := hr.det hr'
 subst this
 obtain ⟨h1, h2⟩ := r
 dsimp only
 obtain ⟨v1, v2, hv⟩ := next_s hl
 refine W_eq hv ?_
 dsimp only
 refine W_eq ((next_eq l).trans hv) ?_
 dsimp only
 rw [show (h1 == h1) = true from by simp]
 refine W_brT ?_
 refine W_if (fun _ => ?_) fun h => absurd rfl h
 refine W_if (fun _ => ?_) fun h => absurd rfl h
 refine W_if (fun _ => ?_) fun h => absurd rfl h
 refine W_call (same_s l (by omega)) fun b hb => ?_
 subst hb
 exact W_brT (W_eq awake_w (W_ret rfl))
end Go.Proofs.YtjcbpfhlgebgdaaDoor
