import Derived.Test.YtjcpgiicdppkcaaDoorXL
import Derived.Test.YtjcpgiicdppkcaaDoorXGTs
set_option linter.unusedSimpArgs false
set_option linter.unusedVariables false
namespace Go.Proofs.YtjcpgiicdppkcaaDoor
open Go.X Go.Eng
def flags (k : Nat) : Int := (if k ≤ 10 ∧ k ≠ 5 then 1 else 0) + (if k = 6 ∨ k = 7 ∨ k = 10 ∨ k = 11 ∨ k = 12 ∨ k = 13 then 2 else 0) + (if k = 12 then 4 else 0)
set_option maxRecDepth 100000 in
theorem face_all : ∀ k ∈ [1, 2, 3, 4, 5, 6, 7, 8, 9, 10, 11, 12, 13, 14, 15], tbl1 .i64 0 (0 + k * 2 + 1) = some (flags k) := by
  intro k hk
  simp only [List.mem_cons, List.not_mem_nil, or_false] at hk
  rcases hk with rfl | rfl | rfl | rfl | rfl | rfl | rfl | rfl | rfl | rfl | rfl | rfl | rfl | rfl | rfl <;> kernel_rfl
theorem face_w {k : Int} (h1 : 1 ≤ k) (h2 : k ≤ 15) : tbl1 .i64 0 (0 + k.toNat * 2 + 1) = some (flags k.toNat) := by
  refine face_all k.toNat ?_
  simp only [List.mem_cons, List.not_mem_nil, or_false]
  omega
theorem bits_all : ∀ k ∈ [1, 2, 3, 4, 5, 6, 7, 8, 9, 10, 11, 12, 13, 14, 15], (bitI .and .i64 (flags k) 1 != (0 : Int)) = decide (k ≤ 10 ∧ k ≠ 5) ∧ (bitI .and .i64 (flags k) 2 != (0 : Int)) = decide (k = 6 ∨ k = 7 ∨ k = 10 ∨ k = 11 ∨ k = 12 ∨ k = 13) ∧ (bitI .and .i64 (flags k) 4 != (0 : Int)) = decide (k = 12) := by
  decide +kernel
def okID (d : ID) : Prop := 1 ≤ d.Node ∧ d.Node ≤ 16 ∧ d.Seq ≤ 1099511627776 ∧ 0 ≤ d.Off ∧ d.Off ≤ 19999
theorem within_s (l : List W3) (hl : l.length ≤ 100) : W (bundle_within l) fun r => (r = true ∧ ∀ x ∈ l, x.b ≤ x.a ∧ x.a ≤ x.c) ∨ (r = false ∧ ¬ ∀ x ∈ l, x.b ≤ x.a ∧ x.a ≤ x.c) := by
  unfold bundle_within
  refine W_loop (fun i : Int => 0 ≤ i ∧ i ≤ (l.length : Int) ∧ ∀ x ∈ l.take i.toNat, x.b ≤ x.a ∧ x.a ≤ x.c) (fun i => l.length - i.toNat) ?_ ⟨by omega, by omega, by simp⟩
  intro i hi
  refine W_if (fun h => ?_) fun h => ?_
  · refine W_idx (by omega) (by omega) fun x hx => ?_
    have hm := List.mem_of_getElem? hx
    refine W_if (fun h => W_done (W_ret (.inr ⟨rfl, fun q => ?_⟩))) fun h => ?_
    · have := q x hm; omega
    refine W_if (fun h => W_done (W_ret (.inr ⟨rfl, fun q => ?_⟩))) fun h2 => ?_
    · have := q x hm; omega
    refine W_op fun j hj => W_next ⟨⟨by omega, by omega, fun y hy => ?_⟩, by omega⟩
    rw [show j.toNat = i.toNat + 1 from by omega, List.take_add_one, hx] at hy
    rcases List.mem_append.1 hy with hy | hy
    · exact hi.2.2 y hy
    · simp at hy; subst hy; omega
  · refine W_done (W_ret (.inl ⟨rfl, ?_⟩))
    have := hi.2.2
    rwa [List.take_of_length_le (by omega)] at this
theorem checkID_s (d : ID) : W (bundle_CheckID d) fun r => (r = 0 ∧ okID d) ∨ (r = 2 ∧ ¬ okID d) := by
  unfold bundle_CheckID
  refine W_call (within_s _ (by simp)) fun r hr => ?_
  rcases hr with ⟨rfl, hr⟩ | ⟨rfl, hr⟩
  · have h1 := hr ⟨d.Node, 1, 16⟩ (by simp)
    have h2 := hr ⟨d.Off, 0, 19999⟩ (by simp)
    dsimp only at h1 h2
    refine W_brnot (W_brT ?_)
    refine W_if (fun h => W_ret (.inr ⟨rfl, fun k => ?_⟩)) fun h => W_ret (.inl ⟨rfl, ?_⟩)
    · unfold okID at k; omega
    · unfold okID; omega
  · refine W_brnot (W_brF (W_ret (.inr ⟨rfl, fun k => hr fun x hx => ?_⟩)))
    unfold okID at k
    simp at hx
    rcases hx with rfl | rfl
    · dsimp only; omega
    · dsimp only; omega
theorem rcheckID_s (d : ID) : W (packhorseref06_CheckID d) fun r => (r = 0 ∧ okID d) ∨ (r = 2 ∧ ¬ okID d) := by
  unfold packhorseref06_CheckID
  have no : ¬ okID d → W (some (2 : Int)) fun r => (r = 0 ∧ okID d) ∨ (r = 2 ∧ ¬ okID d) := fun h => W_ret (.inr ⟨rfl, h⟩)
  refine W_if (fun h => no fun k => by unfold okID at k; omega) fun q1 => ?_
  refine W_if (fun h => no fun k => by unfold okID at k; omega) fun q2 => ?_
  refine W_if (fun h => no fun k => by unfold okID at k; omega) fun q3 => ?_
  refine W_if (fun h => no fun k => by unfold okID at k; omega) fun q4 => ?_
  refine W_if (fun h => no fun k => by unfold okID at k; omega) fun q5 => ?_
  exact W_ret (.inl ⟨rfl, by unfold okID; omega⟩)
def okKind (k : Int) : Prop := 1 ≤ k ∧ k ≤ 15
def okOther (o : Outc) : Prop := ((o.Kind = 6 ∨ o.Kind = 7 ∨ o.Kind = 10 ∨ o.Kind = 11 ∨ o.Kind = 12 ∨ o.Kind = 13) ∧ ((1 ≤ o.Other ∧ o.Other ≤ 16 ∧ o.Other ≠ o.Node) ∨ (o.Kind = 12 ∧ o.Other = 0))) ∨
  (¬ (o.Kind = 6 ∨ o.Kind = 7 ∨ o.Kind = 10 ∨ o.Kind = 11 ∨ o.Kind = 12 ∨ o.Kind = 13) ∧ o.Other = 0)
def okName (o : Outc) : Prop := ((o.Kind ≤ 10 ∧ o.Kind ≠ 5) ∧ okID o.ID) ∨ (¬ (o.Kind ≤ 10 ∧ o.Kind ≠ 5) ∧ o.ID.Node = 0 ∧ o.ID.Seq = 0 ∧ o.ID.Off = 0)
def OKO (o : Outc) : Prop := okKind o.Kind ∧ (0 ≤ o.Tick ∧ o.Tick ≤ 1099511627776 ∧ 1 ≤ o.Node ∧ o.Node ≤ 16) ∧ okName o ∧ okOther o
def ONE (o : Outc) (r : Int) : Prop := (r = 7 ∧ ¬ okKind o.Kind) ∨ (r = 2 ∧ okKind o.Kind ∧ ¬ OKO o) ∨ (r = 0 ∧ OKO o)
theorem ONE.det {o : Outc} {r r' : Int} (h : ONE o r) (h' : ONE o r') : r = r' := by
  rcases h with ⟨rfl, a⟩ | ⟨rfl, a, b⟩ | ⟨rfl, a⟩ <;> rcases h' with ⟨rfl, c⟩ | ⟨rfl, c, d⟩ | ⟨rfl, c⟩ <;> first | rfl | exact absurd c a | exact absurd a c | exact absurd c b | exact absurd a d | exact absurd c.1 a | exact absurd a.1 c
set_option maxHeartbeats 4000000 in
theorem one_s (o : Outc) : W (trace_one o) (ONE o) := by
  unfold trace_one
  refine W_if (fun h => W_ret (.inl ⟨rfl, fun k => by unfold okKind at k; omega⟩)) fun k1 => ?_
  refine W_if (fun h => W_ret (.inl ⟨rfl, fun k => by unfold okKind at k; omega⟩)) fun k2 => ?_
  have hk : okKind o.Kind := by unfold okKind; omega
  refine W_brin (by omega) (by omega) ?_
  refine W_eq (face_w (by omega) (by omega)) ?_
  obtain ⟨b1, b2, b3⟩ := bits_all o.Kind.toNat (by simp only [List.mem_cons, List.not_mem_nil, or_false]; omega)
  rw [b1, b2, b3]
  clear b1 b2 b3
  refine W_brd (fun hu => ?_) (fun hu => ?_)
  · refine W_call (checkID_s o.ID) fun r hr => ?_
    have hr' : (r = 0 ∧ okID o.ID) ∨ (r = 2 ∧ ¬ okID o.ID) := hr
    have hname : r = 0 → okName o := fun h => by
      rcases hr with ⟨_, q⟩ | ⟨q, _⟩
      · exact .inl ⟨by omega, q⟩
      · omega
    have hbad : ¬ r = 0 → OKO o → False := fun h q => by
      rcases hr with ⟨q1, _⟩ | ⟨_, q1⟩
      · exact h q1
      · rcases q.2.2.1 with ⟨_, q2⟩ | ⟨q2, _⟩
        · exact q1 q2
        · omega
    have hr2 : r = 0 ∨ r = 2 := by omega
    clear hr hr'
    refine W_brd (fun hp => ?_) (fun hp => ?_) <;> (repeat' (first | (refine W_brnot ?_) | refine W_if ?_ ?_ <;> intro _))
    all_goals first
      | exact W_ret (.inr (.inr ⟨rfl, hk, by omega, hname (by omega), by unfold okOther; omega⟩))
      | exact W_ret (.inr (.inl ⟨rfl, hk, fun h => by
          obtain ⟨_, h1, h2, h3⟩ := h
          unfold okOther at h3
          omega⟩))
      | exact W_ret (.inr (.inl ⟨rfl, hk, fun h => hbad (by omega) h⟩))
  · have hname : (o.ID.Node = 0 ∧ o.ID.Seq = 0 ∧ o.ID.Off = 0) → okName o := fun h => .inr ⟨by omega, h⟩
    have hbad : ¬ (o.ID.Node = 0 ∧ o.ID.Seq = 0 ∧ o.ID.Off = 0) → OKO o → False := fun h q => by
      rcases q.2.2.1 with ⟨q2, _⟩ | ⟨_, q2⟩
      · omega
      · exact h q2
    refine W_brd (fun hp => ?_) (fun hp => ?_) <;> (repeat' (first | (refine W_brnot ?_) | refine W_if ?_ ?_ <;> intro _))
    all_goals first
      | exact W_ret (.inr (.inr ⟨rfl, hk, by omega, hname (by omega), by unfold okOther; omega⟩))
      | exact W_ret (.inr (.inl ⟨rfl, hk, fun h => by
          obtain ⟨_, h1, h2, h3⟩ := h
          unfold okOther at h3
          omega⟩))
      | exact W_ret (.inr (.inl ⟨rfl, hk, fun h => hbad (by omega) h⟩))
theorem usesOther_s (k : Int) : packhorseref39_usesOther k = some (decide (k = 6 ∨ k = 7 ∨ k = 10 ∨ k = 11 ∨ k = 12 ∨ k = 13)) := by
  refine W.eq ?_
  unfold packhorseref39_usesOther
  (repeat' (refine W_if ?_ ?_ <;> intro _)) <;> refine W_ret ?_ <;> rw [Bool.eq_iff_iff] <;> simp <;> omega
theorem usesID_s (k : Int) : packhorseref39_UsesID k = some (decide (1 ≤ k ∧ k ≤ 10 ∧ k ≠ 5)) := by
  refine W.eq ?_
  unfold packhorseref39_UsesID
  (repeat' (refine W_if ?_ ?_ <;> intro _)) <;> refine W_ret ?_ <;> rw [Bool.eq_iff_iff] <;> simp <;> omega
theorem W_dec {b : Bool} {P Q : Prop} (h : b = true ↔ P) (k : P ↔ Q) : W (some b) fun r => (r = true ∧ Q) ∨ (r = false ∧ ¬ Q) := by
  refine W_ret ?_
  cases b with
  | true => exact .inl ⟨rfl, k.1 (h.1 rfl)⟩
  | false => exact .inr ⟨rfl, fun q => by cases h.2 (k.2 q)⟩
theorem other_s (o : Outc) : W (packhorseref39_other o) fun r => (r = true ∧ okOther o) ∨ (r = false ∧ ¬ okOther o) := by
  unfold packhorseref39_other okOther
  refine W_eq (usesOther_s o.Kind) ?_
  refine W_brnot ?_
  refine W_brd (fun hu => ?_) (fun hu => ?_)
  · (repeat' (refine W_if ?_ ?_ <;> intro _)) <;> first
      | exact W_dec (P := o.Other = 0) beq_iff_eq (by omega)
      | exact W_dec (P := o.Other ≠ o.Node) bne_iff_ne (by omega)
      | exact W_dec (P := True) ⟨fun _ => trivial, fun _ => rfl⟩ (by omega)
      | exact W_dec (P := False) ⟨fun h => absurd h (by decide), False.elim⟩ ⟨False.elim, fun q => by omega⟩
  · exact W_dec (P := o.Other = 0) beq_iff_eq (by omega)
theorem rone_s (o : Outc) : W (packhorseref39_one o) (ONE o) := by
  unfold packhorseref39_one
  refine W_if (fun h => W_ret (.inl ⟨rfl, fun k => by unfold okKind at k; omega⟩)) fun k1 => ?_
  refine W_if (fun h => W_ret (.inl ⟨rfl, fun k => by unfold okKind at k; omega⟩)) fun k2 => ?_
  have hk : okKind o.Kind := by unfold okKind; omega
  have no : ¬ OKO o → W (some (2 : Int)) (ONE o) := fun h => W_ret (.inr (.inl ⟨rfl, hk, h⟩))
  refine W_if (fun h => no fun k => by have := k.2.1; omega) fun q1 => ?_
  refine W_if (fun h => no fun k => by have := k.2.1; omega) fun q2 => ?_
  refine W_if (fun h => no fun k => by have := k.2.1; omega) fun q3 => ?_
  refine W_if (fun h => no fun k => by have := k.2.1; omega) fun q4 => ?_
  refine W_call (other_s o) fun r hr => ?_
  rcases hr with ⟨rfl, hot⟩ | ⟨rfl, hot⟩
  rotate_left
  · exact W_brnot (W_brF (no fun k => hot k.2.2.2))
  refine W_brnot (W_brT ?_)
  refine W_eq (usesID_s o.Kind) ?_
  refine W_brd (fun hu => ?_) (fun hu => ?_)
  · refine W_call (rcheckID_s o.ID) fun r hr => W_ret ?_
    rcases hr with ⟨rfl, q⟩ | ⟨rfl, q⟩
    · exact .inr (.inr ⟨rfl, hk, by omega, .inl ⟨by omega, q⟩, hot⟩)
    · refine .inr (.inl ⟨rfl, hk, fun k => ?_⟩)
      rcases k.2.2.1 with ⟨_, q2⟩ | ⟨q2, _⟩
      · exact q q2
      · omega
  · refine W_brnot (W_if (fun h => W_ret (.inr (.inr ⟨rfl, hk, by omega, .inr ⟨by omega, h⟩, hot⟩))) fun h => no fun k => ?_)
    rcases k.2.2.1 with ⟨q2, _⟩ | ⟨_, q2⟩
    · omega
    · exact h q2
structure OkT (l : List Outc) : Prop where
  one : ∀ o ∈ l, OKO o
  asc : ∀ (i : Nat) x y, l[i]? = some x → l[i + 1]? = some y → x.Tick ≤ y.Tick
def BadT (l : List Outc) (i : Nat) (e : Int) : Prop := ∃ x, l[i]? = some x ∧ OkT (l.take i) ∧
  ((e ≠ 0 ∧ ONE x e ∧ ¬ OKO x) ∨ (e = 19 ∧ OKO x ∧ ∃ y, 0 < i ∧ l[i - 1]? = some y ∧ x.Tick < y.Tick))
def CT (l : List Outc) (r : Int × Int) : Prop :=
  (5000 < l.length ∧ r = (5, 0)) ∨ (l.length ≤ 5000 ∧ OkT l ∧ r = (0, 0)) ∨ (l.length ≤ 5000 ∧ ∃ i : Nat, r.2 = i ∧ BadT l i r.1)
theorem okT_snoc {l : List Outc} {i : Nat} {x : Outc} (hx : l[i]? = some x) : OkT (l.take (i + 1)) ↔ OkT (l.take i) ∧ OKO x ∧ ∀ y, 0 < i → l[i - 1]? = some y → y.Tick ≤ x.Tick := by
  have e : l.take (i + 1) = l.take i ++ [x] := by rw [List.take_add_one, hx]; rfl
  have hil := (List.getElem?_eq_some_iff.1 hx).1
  constructor
  · rintro ⟨h1, h2⟩
    refine ⟨⟨fun o ho => h1 o (by rw [e]; simp [ho]), fun j a b ha hb => ?_⟩, h1 x (by rw [e]; simp), fun y hi hy => ?_⟩
    · rw [List.getElem?_take] at ha hb
      split at hb
      · refine h2 j a b ?_ ?_
        · rw [List.getElem?_take, if_pos (by omega)]; split at ha <;> first | exact ha | cases ha
        · rw [List.getElem?_take, if_pos (by omega)]; exact hb
      · cases hb
    · refine h2 (i - 1) y x ?_ ?_
      · rw [List.getElem?_take, if_pos (by omega)]; exact hy
      · rw [show i - 1 + 1 = i from by omega, List.getElem?_take, if_pos (by omega)]; exact hx
  · rintro ⟨⟨h1, h2⟩, h3, h4⟩
    refine ⟨fun o ho => ?_, fun j a b ha hb => ?_⟩
    · rw [e] at ho
      rcases List.mem_append.1 ho with ho | ho
      · exact h1 o ho
      · simp at ho; subst ho; exact h3
    · rw [List.getElem?_take] at ha hb
      split at hb
      case isFalse => cases hb
      rename_i hj
      rw [if_pos (by omega)] at ha
      by_cases hji : j + 1 = i
      · subst hji
        rw [hx] at hb; cases hb
        exact h4 a (by omega) ha
      · refine h2 j a b ?_ ?_
        · rw [List.getElem?_take, if_pos (by omega)]; exact ha
        · rw [List.getElem?_take, if_pos (by omega)]; exact hb
theorem OkT.take {l : List Outc} (h : OkT l) (i : Nat) : OkT (l.take i) := by
  refine ⟨fun o ho => h.one o (List.mem_of_mem_take ho), fun j a b ha hb => ?_⟩
  rw [List.getElem?_take] at ha hb
  split at hb
  · rw [if_pos (by omega)] at ha
    exact h.asc j a b ha hb
  · cases hb
theorem BadT.no {l : List Outc} {i : Nat} {e : Int} (h : BadT l i e) {k : Nat} (hk : i < k) : ¬ OkT (l.take k) := by
  obtain ⟨x, hx, _, h⟩ := h
  intro hv
  have hv' := hv.take (i + 1)
  rw [List.take_take, Nat.min_eq_left (by omega)] at hv'
  obtain ⟨h1, h2, h3⟩ := (okT_snoc hx).1 hv'
  rcases h with ⟨_, _, h⟩ | ⟨_, _, y, h, hy, hc⟩
  · exact h h2
  · have := h3 y h hy; omega
theorem CT.det {l : List Outc} {r r' : Int × Int} (h : CT l r) (h' : CT l r') : r = r' := by
  have bad : ∀ {i : Nat} {e : Int}, BadT l i e → ¬ OkT l := fun {i e} hb hv => by
    obtain ⟨x, hx, _⟩ := id hb
    have hil := (List.getElem?_eq_some_iff.1 hx).1
    exact hb.no (k := l.length) hil (by rw [List.take_length]; exact hv)
  rcases h with ⟨h1, rfl⟩ | ⟨h1, h2, rfl⟩ | ⟨h1, i, hi, hb⟩ <;> rcases h' with ⟨k1, rfl⟩ | ⟨k1, k2, rfl⟩ | ⟨k1, j, hj, kb⟩
  · rfl
  · omega
  · omega
  · omega
  · rfl
  · exact absurd h2 (bad kb)
  · omega
  · exact absurd k2 (bad hb)
  · have hij : i = j := by
      rcases Nat.lt_trichotomy i j with q | q | q
      · obtain ⟨x, _, hv, _⟩ := id kb; exact absurd hv (hb.no q)
      · exact q
      · obtain ⟨x, _, hv, _⟩ := id hb; exact absurd hv (kb.no q)
    subst hij
    obtain ⟨x, hx, _, h⟩ := hb
    obtain ⟨x', hx', _, k⟩ := kb
    rw [hx] at hx'; cases hx'
    have he : r.1 = r'.1 := by
      rcases h with ⟨a1, a2, a3⟩ | ⟨a1, a2, _⟩ <;> rcases k with ⟨b1, b2, b3⟩ | ⟨b1, b2, _⟩
      · exact a2.det b2
      · exact absurd b2 a3
      · exact absurd a2 b3
      · omega
    exact Prod.ext he (hi.trans hj.symm)
theorem CT.ok {l : List Outc} {n : Int} (h : CT l (0, n)) : l.length ≤ 5000 ∧ OkT l := by
  rcases h with ⟨_, h⟩ | ⟨h1, h2, _⟩ | ⟨h1, i, hi, x, hx, hv, h⟩
  · cases h
  · exact ⟨h1, h2⟩
  · dsimp only at h
    rcases h with ⟨h, _⟩ | ⟨h, _⟩
    · exact absurd rfl h
    · cases h
theorem ONE.ne {x : Outc} {r : Int} (h : ONE x r) (hr : r ≠ 0) : ¬ OKO x := by
  rcases h with ⟨_, h⟩ | ⟨_, _, h⟩ | ⟨h, _⟩
  · exact fun q => h q.1
  · exact h
  · exact absurd h hr
theorem ONE.eq {x : Outc} (h : ONE x 0) : OKO x := by
  rcases h with ⟨h, _⟩ | ⟨h, _, _⟩ | ⟨_, h⟩
  · cases h
  · cases h
  · exact h
theorem check_s (l : List Outc) : W (trace_Check l) (CT l) := by
  unfold trace_Check
  refine W_if (fun h => W_ret (.inl ⟨by omega, rfl⟩)) fun hlen => ?_
  have hlen' : l.length ≤ 5000 := by omega
  refine W_loop (fun i : Int => 0 ≤ i ∧ i ≤ (l.length : Int) ∧ OkT (l.take i.toNat)) (fun i => l.length - i.toNat) ?_ ⟨by omega, by omega, ⟨by simp, by simp⟩⟩
  rintro i ⟨i1, i2, i3⟩
  refine W_if (fun hi => ?_) fun hi => ?_
  rotate_left
  · refine W_done (W_ret (.inr (.inl ⟨hlen', ?_, rfl⟩)))
    rwa [List.take_of_length_le (by omega)] at i3
  refine W_idx (by omega) (by omega) fun x hx => ?_
  refine W_call (one_s x) fun e he => ?_
  refine W_if (fun h => W_done (W_ret (.inr (.inr ⟨hlen', i.toNat, by dsimp only; omega, x, hx, i3, .inl ⟨h, he, he.ne h⟩⟩)))) fun h => ?_
  have h0 : e = 0 := Classical.byContradiction fun q => h q
  subst h0
  have hok := he.eq
  refine W_if (fun h0 => ?_) fun h0 => ?_
  · refine W_op fun k hk => ?_
    refine W_idx (by omega) (by omega) fun y hy => ?_
    have hy' : l[i.toNat - 1]? = some y := by rw [← hy]; congr 1; omega
    refine W_if (fun hlt => W_done (W_ret (.inr (.inr ⟨hlen', i.toNat, by dsimp only; omega, x, hx, i3, .inr ⟨rfl, hok, y, by omega, hy', hlt⟩⟩)))) fun hlt => ?_
    refine W_op fun j hj => W_next ⟨⟨by omega, by omega, ?_⟩, by omega⟩
    rw [show j.toNat = i.toNat + 1 from by omega]
    exact (okT_snoc hx).2 ⟨i3, hok, fun z _ hz => by rw [hy'] at hz; cases hz; omega⟩
  · refine W_op fun j hj => W_next ⟨⟨by omega, by omega, ?_⟩, by omega⟩
    rw [show j.toNat = i.toNat + 1 from by omega]
    exact (okT_snoc hx).2 ⟨i3, hok, fun z hz _ => by omega⟩
theorem rcheck_s (l : List Outc) : W (packhorseref39_Check l) (CT l) := by
  unfold packhorseref39_Check
  refine W_if (fun h => W_ret (.inl ⟨by omega, rfl⟩)) fun hlen => ?_
  have hlen' : l.length ≤ 5000 := by omega
  refine W_loop (fun i : Int => 0 ≤ i ∧ i ≤ (l.length : Int) ∧ OkT (l.take i.toNat)) (fun i => l.length - i.toNat) ?_ ⟨by omega, by omega, ⟨by simp, by simp⟩⟩
  rintro i ⟨i1, i2, i3⟩
  refine W_if (fun hi => ?_) fun hi => ?_
  rotate_left
  · refine W_done (W_ret (.inr (.inl ⟨hlen', ?_, rfl⟩)))
    rwa [List.take_of_length_le (by omega)] at i3
  refine W_idx (by omega) (by omega) fun x hx => ?_
  refine W_call (rone_s x) fun e he => ?_
  refine W_if (fun h => W_done (W_ret (.inr (.inr ⟨hlen', i.toNat, by dsimp only; omega, x, hx, i3, .inl ⟨h, he, he.ne h⟩⟩)))) fun h => ?_
  have h0 : e = 0 := Classical.byContradiction fun q => h q
  subst h0
  have hok := he.eq
  refine W_if (fun h0 => ?_) fun h0 => ?_
  · refine W_idx (by omega) (by omega) fun x' hx' => ?_
    rw [hx] at hx'; cases hx'
    refine W_op fun k hk => ?_
    refine W_idx (by omega) (by omega) fun y hy => ?_
    have hy' : l[i.toNat - 1]? = some y := by rw [← hy]; congr 1; omega
    refine W_if (fun hlt => W_done (W_ret (.inr (.inr ⟨hlen', i.toNat, by dsimp only; omega, x, hx, i3, .inr ⟨rfl, hok, y, by omega, hy', hlt⟩⟩)))) fun hlt => ?_
    refine W_op fun j hj => W_next ⟨⟨by omega, by omega, ?_⟩, by omega⟩
    rw [show j.toNat = i.toNat + 1 from by omega]
    exact (okT_snoc hx).2 ⟨i3, hok, fun z _ hz => by rw [hy'] at hz; cases hz; omega⟩
  · refine W_op fun j hj => W_next ⟨⟨by omega, by omega, ?_⟩, by omega⟩
    rw [show j.toNat = i.toNat + 1 from by omega]
    exact (okT_snoc hx).2 ⟨i3, hok, fun z hz _ => by omega⟩
end Go.Proofs.YtjcpgiicdppkcaaDoor
