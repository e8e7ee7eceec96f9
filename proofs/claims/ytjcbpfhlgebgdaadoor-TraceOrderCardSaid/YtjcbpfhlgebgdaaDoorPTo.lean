import Derived.Test.YtjcbpfhlgebgdaaDoorXL
import Derived.Test.YtjcbpfhlgebgdaaDoorXGTo
import Derived.Test.YtjcbpfhlgebgdaaDoorXO
set_option linter.unusedSimpArgs false
set_option linter.unusedVariables false
namespace Go.Proofs.YtjcbpfhlgebgdaaDoor
open Go.X Go.Eng
def flags (k : Nat) : Int := (if k ≤ 10 ∧ k ≠ 5 then 1 else 0) + (if k = 6 ∨ k = 7 ∨ k = 10 ∨ k = 11 ∨ k = 12 ∨ k = 13 then 2 else 0) + (if k = 12 then 4 else 0)
set_option maxRecDepth 100000 in
theorem face_all : ∀ k ∈ [1, 2, 3, 4, 5, 6, 7, 8, 9, 10, 11, 12, 13, 14, 15], tbl1 .i64 0 (0 + k * 2 + 1) = some (flags k) := by
 intro k hk
 simp only [List.mem_cons, List.not_mem_nil, or_false] at hk
 rcases hk with rfl | rfl | rfl | rfl | rfl | rfl | rfl | rfl | rfl | rfl | rfl | rfl | rfl | rfl | rfl <;> kernel_rfl
theorem face_w {k : Int} (h1 : 1 ≤ k) (h2 : k ≤ 15) : tbl1 .i64 0 (0 + k.toNat * 2 + 1) = some (flags k.toNat) := by
 refine face_all k.toNat ?_
 simp only [List.mem_cons, List.not_mem_nil, or_false]
 omega
theorem bits_all : ∀ k ∈ [1, 2, 3, 4, 5, 6, 7, 8, 9, 10, 11, 12, 13, 14, 15], (bitI .and .i64 (flags k) 1 != (0 : Int)) = decide (k ≤ 10 ∧ k ≠ 5) ∧ (bitI .and .i64 (flags k) 2 != (0 : Int)) = decide (k = 6 ∨ k = 7 ∨ k = 10 ∨ k = 11 ∨ k = 12 ∨ k = 13) ∧ (bitI .and .i64 (flags k) 4 != (0 : Int)) = decide (k = 12) := by
 decide +kernel
def okID (d : ID) : Prop := 1 ≤ d.Node ∧ d.Node ≤ 16 ∧ d.Seq ≤ 1099511627776 ∧ 0 ≤ d.Off ∧ d.Off ≤ 19999
theorem within_s (l : List W3) (hl : l.length ≤ 100) : W (bundle_within l) fun r => (r = true ∧ ∀ x ∈ l, x.b ≤ x.a ∧ x.a ≤ x.c) ∨ (r = false ∧ ¬ ∀ x ∈ l, x.b ≤ x.a ∧ x.a ≤ x.c) := by
 unfold bundle_within
 refine W_loop (fun i : Int => 0 ≤ i ∧ i ≤ (l.length : Int) ∧ ∀ x ∈ l.take i.toNat, x.b ≤ x.a ∧ x.a ≤ x.c) (fun i => l.length - i.toNat) ?_ ⟨by omega, by omega, by simp⟩
 intro i hi
 refine W_if (fun h => ?_) fun h => ?_
 ·refine W_idx (by omega) (by omega) fun x hx => ?_
  have hm := List.mem_of_getElem? hx
  refine W_if (fun h => W_done (W_ret (.inr ⟨rfl, fun q => ?_⟩))) fun h => ?_
  ·have := q x hm; omega
  refine W_if (fun h => W_done (W_ret (.inr ⟨rfl, fun q => ?_⟩))) fun h2 => ?_
  ·have := q x hm; omega
  refine W_op fun j hj => W_next ⟨⟨by omega, by omega, fun y hy => ?_⟩, by omega⟩
  rw [show j.toNat = i.toNat + 1 from by omega, List.take_add_one, hx] at hy
  rcases List.mem_append.1 hy with hy | hy
  ·exact hi.2.2 y hy
  ·simp at hy; subst hy; omega
 ·refine W_done (W_ret (.inl ⟨rfl, ?_⟩))
  have := hi.2.2
  rwa [List.take_of_length_le (by omega)] at this
theorem checkID_s (d : ID) : W (bundle_CheckID d) fun r => (r = 0 ∧ okID d) ∨ (r = 2 ∧ ¬ okID d) := by
 unfold bundle_CheckID
 refine W_call (within_s _ (by simp)) fun r hr => ?_
 rcases hr with ⟨rfl, hr⟩ | ⟨rfl, hr⟩
 ·have h1 := hr ⟨d.Node, 1, 16⟩ (by simp)
  have h2 := hr ⟨d.Off, 0, 19999⟩ (by simp)
  dsimp only at h1 h2
  refine W_brnot (W_brT ?_)
  refine W_if (fun h => W_ret (.inr ⟨rfl, fun k => ?_⟩)) fun h => W_ret (.inl ⟨rfl, ?_⟩)
  ·unfold okID at k; omega
  ·unfold okID; omega
 ·refine W_brnot (W_brF (W_ret (.inr ⟨rfl, fun k => hr fun x hx => ?_⟩)))
  unfold okID at k
  simp at hx
  rcases hx with rfl | rfl
  ·dsimp only; omega
  ·dsimp only; omega
def okKind (k : Int) : Prop := 1 ≤ k ∧ k ≤ 15
def okOther (o : Outc) : Prop := ((o.Kind = 6 ∨ o.Kind = 7 ∨ o.Kind = 10 ∨ o.Kind = 11 ∨ o.Kind = 12 ∨ o.Kind = 13) ∧ ((1 ≤ o.Other ∧ o.Other ≤ 16 ∧ o.Other ≠ o.Node) ∨ (o.Kind = 12 ∧ o.Other = 0))) ∨
 (¬ (o.Kind = 6 ∨ o.Kind = 7 ∨ o.Kind = 10 ∨ o.Kind = 11 ∨ o.Kind = 12 ∨ o.Kind = 13) ∧ o.Other = 0)
def okName (o : Outc) : Prop := ((o.Kind ≤ 10 ∧ o.Kind ≠ 5) ∧ okID o.ID) ∨ (¬ (o.Kind ≤ 10 ∧ o.Kind ≠ 5) ∧ o.ID.Node = 0 ∧ o.ID.Seq = 0 ∧ o.ID.Off = 0)
def OKO (o : Outc) : Prop := okKind o.Kind ∧ (0 ≤ o.Tick ∧ o.Tick ≤ 1099511627776 ∧ 1 ≤ o.Node ∧ o.Node ≤ 16) ∧ okName o ∧ okOther o
def ONE (o : Outc) (r : Int) : Prop := (r = 7 ∧ ¬ okKind o.Kind) ∨ (r = 2 ∧ okKind o.Kind ∧ ¬ OKO o) ∨ (r = 0 ∧ OKO o)
theorem ONE.det {o : Outc} {r r' : Int} (h : ONE o r) (h' : ONE o r') : r = r' := by
 rcases h with ⟨rfl, a⟩ | ⟨rfl, a, b⟩ | ⟨rfl, a⟩ <;> rcases h' with ⟨rfl, c⟩ | ⟨rfl, c, d⟩ | ⟨rfl, c⟩ <;> first | rfl | exact absurd c a | exact absurd a c | exact absurd c b | exact absurd a d | exact absurd c.1 a | exact absurd a.1 c
set_option maxHeartbeats 4000000 in
theorem one_s (o : Outc) : W (trace_one o) (ONE o) := by
 unfold trace_one
 refine W_if (fun h => W_ret (.inl ⟨rfl, fun k => by unfold okKind at k; omega⟩)) fun k1 => ?_
 refine W_if (fun h => W_ret (.inl ⟨rfl, fun k => by unfold okKind at k; omega⟩)) fun k2 => ?_
 have hk : okKind o.Kind := by unfold okKind; omega
 refine W_brin (by omega) (by omega) ?_
 refine W_eq (face_w (by omega) (by omega)) ?_
 obtain ⟨b1, b2, b3⟩ := bits_all o.Kind.toNat (by simp only [List.mem_cons, List.not_mem_nil, or_false]; omega)
 rw [b1, b2, b3]
 clear b1 b2 b3
 refine W_brd (fun hu => ?_) (fun hu => ?_)
 ·refine W_call (checkID_s o.ID) fun r hr => ?_
  have hr' : (r = 0 ∧ okID o.ID) ∨ (r = 2 ∧ ¬ okID o.ID) := hr
  have hname : r = 0 → okName o := fun h => by
   rcases hr with ⟨_, q⟩ | ⟨q, _⟩
   ·exact .inl ⟨by omega, q⟩
   ·omega
  have hbad : ¬ r = 0 → OKO o → False := fun h q => by
   rcases hr with ⟨q1, _⟩ | ⟨_, q1⟩
   ·exact h q1
   ·rcases q.2.2.1 with ⟨_, q2⟩ | ⟨q2, _⟩
    ·exact q1 q2
    ·omega
  have hr2 : r = 0 ∨ r = 2 := by omega
  clear hr hr'
  refine W_brd (fun hp => ?_) (fun hp => ?_) <;> (repeat' (first | (refine W_brnot ?_) | refine W_if ?_ ?_ <;> intro _))
  all_goals first
   | exact W_ret (.inr (.inr ⟨rfl, hk, by omega, hname (by omega), by unfold okOther; omega⟩))
   | exact W_ret (.inr (.inl ⟨rfl, hk, fun h => by
     obtain ⟨_, h1, h2, h3⟩ := h
     unfold okOther at h3
     omega⟩))
   | exact W_ret (.inr (.inl ⟨rfl, hk, fun h => hbad (by omega) h⟩))
 ·have hname : (o.ID.Node = 0 ∧ o.ID.Seq = 0 ∧ o.ID.Off = 0) → okName o := fun h => .inr ⟨by omega, h⟩
  have hbad : ¬ (o.ID.Node = 0 ∧ o.ID.Seq = 0 ∧ o.ID.Off = 0) → OKO o → False := fun h q => by
   rcases q.2.2.1 with ⟨q2, _⟩ | ⟨_, q2⟩
   ·omega
   ·exact h q2
  refine W_brd (fun hp => ?_) (fun hp => ?_) <;> (repeat' (first | (refine W_brnot ?_) | refine W_if ?_ ?_ <;> intro _))
  all_goals first
   | exact W_ret (.inr (.inr ⟨rfl, hk, by omega, hname (by omega), by unfold okOther; omega⟩))
   | exact W_ret (.inr (.inl ⟨rfl, hk, fun h => by
     obtain ⟨_, h1, h2, h3⟩ := h
     unfold okOther at h3
     omega⟩))
   | exact W_ret (.inr (.inl ⟨rfl, hk, fun h => hbad (by omega) h⟩))
structure OkT (l : List Outc) : Prop where
 one : ∀ o ∈ l, OKO o
 asc : ∀ (i : Nat) x y, l[i]? = some x → l[i + 1]? = some y → x.Tick ≤ y.Tick
def BadT (l : List Outc) (i : Nat) (e : Int) : Prop := ∃ x, l[i]? = some x ∧ OkT (l.take i) ∧
 ((e ≠ 0 ∧ ONE x e ∧ ¬ OKO x) ∨ (e = 19 ∧ OKO x ∧ ∃ y, 0 < i ∧ l[i - 1]? = some y ∧ x.Tick < y.Tick))
def CT (l : List Outc) (r : Int × Int) : Prop :=
 (5000 < l.length ∧ r = (5, 0)) ∨ (l.length ≤ 5000 ∧ OkT l ∧ r = (0, 0)) ∨ (l.length ≤ 5000 ∧ ∃ i : Nat, r.2 = i ∧ BadT l i r.1)
theorem okT_snoc {l : List Outc} {i : Nat} {x : Outc} (hx : l[i]? = some x) : OkT (l.take (i + 1)) ↔ OkT (l.take i) ∧ OKO x ∧ ∀ y, 0 < i → l[i - 1]? = some y → y.Tick ≤ x.Tick := by
 have e : l.take (i + 1) = l.take i ++ [x] := by rw [List.take_add_one, hx]; rfl
 have hil := (List.getElem?_eq_some_iff.1 hx).1
 constructor
 ·rintro ⟨h1, h2⟩
  refine ⟨⟨fun o ho => h1 o (by rw [e]; simp [ho]), fun j a b ha hb => ?_⟩, h1 x (by rw [e]; simp), fun y hi hy => ?_⟩
  ·rw [List.getElem?_take] at ha hb
   split at hb
   ·refine h2 j a b ?_ ?_
    ·rw [List.getElem?_take, if_pos (by omega)]; split at ha <;> first | exact ha | cases ha
    ·rw [List.getElem?_take, if_pos (by omega)]; exact hb
   ·cases hb
  ·refine h2 (i - 1) y x ?_ ?_
   ·rw [List.getElem?_take, if_pos (by omega)]; exact hy
   ·rw [show i - 1 + 1 = i from by omega, List.getElem?_take, if_pos (by omega)]; exact hx
 ·rintro ⟨⟨h1, h2⟩, h3, h4⟩
  refine ⟨fun o ho => ?_, fun j a b ha hb => ?_⟩
  ·rw [e] at ho
   rcases List.mem_append.1 ho with ho | ho
   ·exact h1 o ho
   ·simp at ho; subst ho; exact h3
  ·rw [List.getElem?_take] at ha hb
   split at hb
   case isFalse => cases hb
   rename_i hj
   rw [if_pos (by omega)] at ha
   by_cases hji : j + 1 = i
   ·subst hji
    rw [hx] at hb; cases hb
    exact h4 a (by omega) ha
   ·refine h2 j a b ?_ ?_
    ·rw [List.getElem?_take, if_pos (by omega)]; exact ha
    ·rw [List.getElem?_take, if_pos (by omega)]; exact hb
theorem OkT.take {l : List Outc} (h : OkT l) (i : Nat) : OkT (l.take i) := by
 refine ⟨fun o ho => h.one o (List.mem_of_mem_take ho), fun j a b ha hb => ?_⟩
 rw [List.getElem?_take] at ha hb
 split at hb
 ·rw [if_pos (by omega)] at ha
  exact h.asc j a b ha hb
 ·cases hb
theorem BadT.no {l : List Outc} {i : Nat} {e : Int} (h : BadT l i e) {k : Nat} (hk : i < k) : ¬ OkT (l.take k) := by
 obtain ⟨x, hx, _, h⟩ := h
 intro hv
 have hv' := hv.take (i + 1)
 rw [List.take_take, Nat.min_eq_left (by omega)] at hv'
 obtain ⟨h1, h2, h3⟩ := (okT_snoc hx).1 hv'
 rcases h with ⟨_, _, h⟩ | ⟨_, _, y, h, hy, hc⟩
 ·exact h h2
 ·have := h3 y h hy; omega
theorem CT.det {l : List Outc} {r r' : Int × Int} (h : CT l r) (h' : CT l r') : r = r' := by
 have bad : ∀ {i : Nat} {e : Int}, BadT l i e → ¬ OkT l := fun {i e} hb hv => by
  obtain ⟨x, hx, _⟩ := id hb
  have hil := (List.getElem?_eq_some_iff.1 hx).1
  exact hb.no (k := l.length) hil (by rw [List.take_length]; exact hv)
 rcases h with ⟨h1, rfl⟩ | ⟨h1, h2, rfl⟩ | ⟨h1, i, hi, hb⟩ <;> rcases h' with ⟨k1, rfl⟩ | ⟨k1, k2, rfl⟩ | ⟨k1, j, hj, kb⟩
 ·rfl
 ·omega
 ·omega
 ·omega
 ·rfl
 ·exact absurd h2 (bad kb)
 ·omega
 ·exact absurd k2 (bad hb)
 ·have hij : i = j := by
   rcases Nat.lt_trichotomy i j with q | q | q
   ·obtain ⟨x, _, hv, _⟩ := id kb; exact absurd hv (hb.no q)
   ·exact q
   ·obtain ⟨x, _, hv, _⟩ := id hb; exact absurd hv (kb.no q)
  subst hij
  obtain ⟨x, hx, _, h⟩ := hb
  obtain ⟨x', hx', _, k⟩ := kb
  rw [hx] at hx'; cases hx'
  have he : r.1 = r'.1 := by
   rcases h with ⟨a1, a2, a3⟩ | ⟨a1, a2, _⟩ <;> rcases k with ⟨b1, b2, b3⟩ | ⟨b1, b2, _⟩
   ·exact a2.det b2
   ·exact absurd b2 a3
   ·exact absurd a2 b3
   ·omega
  exact Prod.ext he (hi.trans hj.symm)
theorem CT.ok {l : List Outc} {n : Int} (h : CT l (0, n)) : l.length ≤ 5000 ∧ OkT l := by
 rcases h with ⟨_, h⟩ | ⟨h1, h2, _⟩ | ⟨h1, i, hi, x, hx, hv, h⟩
 ·cases h
 ·exact ⟨h1, h2⟩
 ·dsimp only at h
  rcases h with ⟨h, _⟩ | ⟨h, _⟩
  ·exact absurd rfl h
  ·cases h
theorem ONE.ne {x : Outc} {r : Int} (h : ONE x r) (hr : r ≠ 0) : ¬ OKO x := by
 rcases h with ⟨_, h⟩ | ⟨_, _, h⟩ | ⟨h, _⟩
 ·exact fun q => h q.1
 ·exact h
 ·exact absurd h hr
theorem ONE.eq {x : Outc} (h : ONE x 0) : OKO x := by
 rcases h with ⟨h, _⟩ | ⟨h, _, _⟩ | ⟨_, h⟩
 ·cases h
 ·cases h
 ·exact h
theorem check_s (l : List Outc) : W (trace_Check l) (CT l) := by
 unfold trace_Check
 refine W_if (fun h => W_ret (.inl ⟨by omega, rfl⟩)) fun hlen => ?_
 have hlen' : l.length ≤ 5000 := by omega
 refine W_loop (fun i : Int => 0 ≤ i ∧ i ≤ (l.length : Int) ∧ OkT (l.take i.toNat)) (fun i => l.length - i.toNat) ?_ ⟨by omega, by omega, ⟨by simp, by simp⟩⟩
 rintro i ⟨i1, i2, i3⟩
 refine W_if (fun hi => ?_) fun hi => ?_
 rotate_left
 ·refine W_done (W_ret (.inr (.inl ⟨hlen', ?_, rfl⟩)))
  rwa [List.take_of_length_le (by omega)] at i3
 refine W_idx (by omega) (by omega) fun x hx => ?_
 refine W_call (one_s x) fun e he => ?_
 refine W_if (fun h => W_done (W_ret (.inr (.inr ⟨hlen', i.toNat, by dsimp only; omega, x, hx, i3, .inl ⟨h, he, he.ne h⟩⟩)))) fun h => ?_
 have h0 : e = 0 := Classical.byContradiction fun q => h q
 subst h0
 have hok := he.eq
 refine W_if (fun h0 => ?_) fun h0 => ?_
 ·refine W_op fun k hk => ?_
  refine W_idx (by omega) (by omega) fun y hy => ?_
  have hy' : l[i.toNat - 1]? = some y := by rw [← hy]; congr 1; omega
  refine W_if (fun hlt => W_done (W_ret (.inr (.inr ⟨hlen', i.toNat, by dsimp only; omega, x, hx, i3, .inr ⟨rfl, hok, y, by omega, hy', hlt⟩⟩)))) fun hlt => ?_
  refine W_op fun j hj => W_next ⟨⟨by omega, by omega, ?_⟩, by omega⟩
  rw [show j.toNat = i.toNat + 1 from by omega]
  exact (okT_snoc hx).2 ⟨i3, hok, fun z _ hz => by rw [hy'] at hz; cases hz; omega⟩
 ·refine W_op fun j hj => W_next ⟨⟨by omega, by omega, ?_⟩, by omega⟩
  rw [show j.toNat = i.toNat + 1 from by omega]
  exact (okT_snoc hx).2 ⟨i3, hok, fun z hz _ => by omega⟩
section
variable {α β : Type} [DecidableEq α]
theorem aget_none {m : List (α × β)} {k : α} (h : k ∉ m.map (·.1)) : aget m k = none := by
 induction m with
 | nil => rfl
 | cons e m ih =>
  obtain ⟨a, b⟩ := e
  simp only [List.map_cons, List.mem_cons, not_or] at h
  simp only [aget]
  rw [if_neg (fun q => h.1 q.symm)]
  exact ih h.2
theorem keys_aput {m : List (α × β)} {k : α} {v : β} {x : α} (h : x ∈ (aput m k v).map (·.1)) : x ∈ m.map (·.1) ∨ x = k := by
 induction m with
 | nil => simp [aput] at h; exact .inr h
 | cons e m ih =>
  obtain ⟨a, b⟩ := e
  simp only [aput] at h
  split at h
  ·rename_i q
   subst q
   exact .inl h
  ·simp only [List.map_cons, List.mem_cons] at h ⊢
   rcases h with h | h
   ·exact .inl (.inl h)
   ·rcases ih h with h | h
    ·exact .inl (.inr h)
    ·exact .inr h
theorem nodup_aput {m : List (α × β)} {k : α} {v : β} (h : (m.map (·.1)).Nodup) : ((aput m k v).map (·.1)).Nodup := by
 induction m with
 | nil => simp [aput]
 | cons e m ih =>
  obtain ⟨a, b⟩ := e
  simp only [List.map_cons, List.nodup_cons] at h
  simp only [aput]
  split
  ·rename_i q
   subst q
   simpa using h
  ·rename_i q
   simp only [List.map_cons, List.nodup_cons]
   refine ⟨fun hq => ?_, ih h.2⟩
   rcases keys_aput hq with hq | hq
   ·exact h.1 hq
   ·exact q hq
theorem mem_adel {m : List (α × β)} {k : α} {e : α × β} (h : e ∈ adel m k) : e ∈ m := by
 induction m with
 | nil => simp [adel] at h
 | cons x m ih =>
  obtain ⟨a, b⟩ := x
  simp only [adel] at h
  split at h
  ·exact List.mem_cons_of_mem _ h
  ·rcases List.mem_cons.1 h with h | h
   ·rw [h]; simp
   ·exact List.mem_cons_of_mem _ (ih h)
theorem nodup_adel {m : List (α × β)} {k : α} (h : (m.map (·.1)).Nodup) : ((adel m k).map (·.1)).Nodup := by
 induction m with
 | nil => simp [adel]
 | cons e m ih =>
  obtain ⟨a, b⟩ := e
  simp only [List.map_cons, List.nodup_cons] at h
  simp only [adel]
  split
  ·exact h.2
  ·simp only [List.map_cons, List.nodup_cons]
   refine ⟨fun hq => ?_, ih h.2⟩
   obtain ⟨e, he, hq⟩ := List.mem_map.1 hq
   exact h.1 (List.mem_map.2 ⟨e, mem_adel he, hq⟩)
theorem aget_adel {m : List (α × β)} {k k' : α} (h : (m.map (·.1)).Nodup) : aget (adel m k) k' = if k = k' then none else aget m k' := by
 induction m with
 | nil => simp [adel, aget]
 | cons e m ih =>
  obtain ⟨a, b⟩ := e
  simp only [List.map_cons, List.nodup_cons] at h
  simp only [adel]
  by_cases q : a = k
  ·subst q
   rw [if_pos rfl]
   by_cases q2 : a = k'
   ·subst q2
    rw [if_pos rfl]
    exact aget_none h.1
   ·rw [if_neg q2]
    simp only [aget]
    rw [if_neg q2]
  ·rw [if_neg q]
   simp only [aget]
   rw [ih h.2]
   by_cases q2 : a = k'
   ·subst q2
    rw [if_pos rfl, if_neg (fun h => q h.symm), if_pos rfl]
   ·rw [if_neg q2, if_neg q2]
end
theorem kin_outc {o : Outc} (h : OKO o) (hs : 0 ≤ o.ID.Seq) : kinC .Outc o = true := by
 obtain ⟨h1, h2, h3, h4⟩ := h
 unfold okKind at h1
 unfold okName okID at h3
 unfold okOther at h4
 simp only [kinC, Bool.and_eq_true, decide_eq_true_eq]
 exact ⟨⟨⟨⟨⟨⟨InR_i64 _ (by omega), InR_i64 _ (by omega)⟩, InR_i64 _ (by omega)⟩, InR_i64 _ (by omega)⟩, InR_u64 _ (by omega)⟩, InR_i64 _ (by omega)⟩, InR_i64 _ (by omega)⟩
abbrev MO := List (Outc × Int)
theorem mgetO_w {l : MO} {k : Outc} (hk : kinC .Outc k = true) (hl : ∀ e ∈ l, kinC .Outc e.1 = true) : mget (α := Outc) (β := Int) (kinC .Outc) l k = some (aget l k) := by
 unfold mget
 rw [hk, List.all_eq_true.2 hl]; rfl
theorem mputO_w {l : MO} {k : Outc} {v : Int} (hk : kinC .Outc k = true) (hl : ∀ e ∈ l, kinC .Outc e.1 = true) : mput (α := Outc) (β := Int) (kinC .Outc) l k v = some (aput l k v) := by
 unfold mput
 rw [hk, List.all_eq_true.2 hl]; rfl
theorem mdelO_w {l : MO} {k : Outc} (hk : kinC .Outc k = true) (hl : ∀ e ∈ l, kinC .Outc e.1 = true) : mdel (α := Outc) (β := Int) (kinC .Outc) l k = some (adel l k) := by
 unfold mdel
 rw [hk, List.all_eq_true.2 hl]; rfl
structure Cnt (m : MO) (d : Outc → Int) : Prop where
 nd : (m.map (·.1)).Nodup
 kin : ∀ e ∈ m, kinC .Outc e.1 = true
 get : ∀ k, aget m k = if d k = 0 then none else some (d k)
theorem Cnt.getD {m : MO} {d : Outc → Int} (h : Cnt m d) (k : Outc) : (aget m k).getD 0 = d k := by
 rw [h.get]
 split
 ·rename_i q; rw [q]; rfl
 ·rfl
theorem Cnt.empty {m : MO} {d : Outc → Int} (h : Cnt m d) : m.length = 0 ↔ ∀ k, d k = 0 := by
 constructor
 ·intro hl k
  have : m = [] := List.eq_nil_of_length_eq_zero hl
  have hg := h.get k
  rw [this] at hg
  simp only [aget] at hg
  split at hg
  ·assumption
  ·cases hg
 ·intro hd
  cases m with
  | nil => rfl
  | cons e m =>
   obtain ⟨a, b⟩ := e
   have := h.get a
   rw [if_pos (hd a)] at this
   simp [aget] at this
theorem kin_aput {m : MO} {k : Outc} {v : Int} (hm : ∀ e ∈ m, kinC .Outc e.1 = true) (hk : kinC .Outc k = true) : ∀ e ∈ aput m k v, kinC .Outc e.1 = true := by
 intro e he
 rcases mem_aput he with he | he
 ·exact hm e he
 ·rw [he]; exact hk
theorem Cnt.put {m : MO} {d d' : Outc → Int} {x : Outc} {v : Int} (h : Cnt m d) (hk : kinC .Outc x = true) (hv : d' x = v) (h0 : v ≠ 0) (hd : ∀ k, x ≠ k → d' k = d k) : Cnt (aput m x v) d' := by
 refine ⟨nodup_aput h.nd, kin_aput h.kin hk, fun k => ?_⟩
 rw [aget_aput]
 by_cases q : x = k
 ·subst q
  rw [if_pos rfl, hv, if_neg h0]
 ·rw [if_neg q, hd k q, h.get]
theorem Cnt.del {m : MO} {d d' : Outc → Int} {x : Outc} {v : Int} (h : Cnt m d) (hk : kinC .Outc x = true) (hv : d' x = 0) (hd : ∀ k, x ≠ k → d' k = d k) : Cnt (adel (aput m x v) x) d' := by
 refine ⟨nodup_adel (nodup_aput h.nd), fun e he => kin_aput h.kin hk e (mem_adel he), fun k => ?_⟩
 rw [aget_adel (nodup_aput h.nd)]
 by_cases q : x = k
 ·subst q
  rw [if_pos rfl, hv, if_pos rfl]
 ·rw [if_neg q, aget_aput, if_neg q, hd k q, h.get]
theorem take_count {l : List Outc} {i : Nat} {x : Outc} (hx : l[i]? = some x) (k : Outc) : ((l.take (i + 1)).count k : Int) = (l.take i).count k + (if x = k then 1 else 0) := by
 rw [List.take_add_one, hx, List.count_append]
 simp only [Option.toList_some, List.count_singleton]
 by_cases q : x = k <;> simp [q]
def VT (l : List Outc) (e : Int) : Prop := ∃ n, CT l (e, n)
theorem VT.det {l : List Outc} {e e' : Int} (h : VT l e) (h' : VT l e') : e = e' := by
 obtain ⟨n, h⟩ := h
 obtain ⟨n', h'⟩ := h'
 exact congrArg Prod.fst (h.det h')
theorem VT.ok {l : List Outc} (h : VT l 0) : l.length ≤ 5000 ∧ OkT l := by
 obtain ⟨n, h⟩ := h
 exact h.ok
theorem valid_s (l : List Outc) : W (trace_valid l) (VT l) := by
 unfold trace_valid
 refine W_call (check_s l) fun r hr => ?_
 obtain ⟨e, n⟩ := r
 exact W_ret ⟨n, hr⟩
def SM (a b : List Outc) (r : Bool × Int) : Prop := (∃ e, VT a e ∧ e ≠ 0 ∧ r = (false, e)) ∨ (VT a 0 ∧ ∃ e, VT b e ∧ e ≠ 0 ∧ r = (false, e)) ∨
 (VT a 0 ∧ VT b 0 ∧ ((r = (true, 0) ∧ ∀ k, a.count k = b.count k) ∨ (r = (false, 0) ∧ ¬ ∀ k, a.count k = b.count k)))
theorem SM.det {a b : List Outc} {r r' : Bool × Int} (h : SM a b r) (h' : SM a b r') : r = r' := by
 rcases h with ⟨e, h1, h2, rfl⟩ | ⟨h1, e, h2, h3, rfl⟩ | ⟨h1, h2, h3⟩ <;> rcases h' with ⟨e', k1, k2, rfl⟩ | ⟨k1, e', k2, k3, rfl⟩ | ⟨k1, k2, k3⟩
 ·rw [h1.det k1]
 ·exact absurd (h1.det k1) h2
 ·exact absurd (h1.det k1) h2
 ·exact absurd (k1.det h1) k2
 ·rw [h2.det k2]
 ·exact absurd (h2.det k2) h3
 ·exact absurd (k1.det h1) k2
 ·exact absurd (k2.det h2) k3
 ·rcases h3 with ⟨rfl, h3⟩ | ⟨rfl, h3⟩ <;> rcases k3 with ⟨rfl, k3⟩ | ⟨rfl, k3⟩
  ·rfl
  ·exact absurd h3 k3
  ·exact absurd k3 h3
  ·rfl
theorem same_s (a b : List Outc) (ha : ∀ o ∈ a, 0 ≤ o.ID.Seq) (hb : ∀ o ∈ b, 0 ≤ o.ID.Seq) : W (trace_Same (a, b)) (SM a b) := by
 unfold trace_Same
 dsimp only
 refine W_call (valid_s a) fun e he => ?_
 refine W_if (fun h => W_ret (.inl ⟨e, he, h, rfl⟩)) fun h => ?_
 have h0 : e = 0 := Classical.byContradiction fun q => h q
 subst h0
 refine W_call (valid_s b) fun e he' => ?_
 refine W_if (fun h => W_ret (.inr (.inl ⟨he, e, he', h, rfl⟩))) fun h => ?_
 have h0 : e = 0 := Classical.byContradiction fun q => h q
 subst h0
 obtain ⟨la, oka⟩ := he.ok
 obtain ⟨lb, okb⟩ := he'.ok
 refine W_call (R := fun m => Cnt m fun k => (a.count k : Int)) (W_iter (fun s : Int × MO => 0 ≤ s.1 ∧ s.1 ≤ (a.length : Int) ∧ Cnt s.2 fun k => ((a.take s.1.toNat).count k : Int)) (fun s => a.length - s.1.toNat) ?_ ⟨by simp, by simp, ⟨by simp, by simp, by intro k; simp [aget]⟩⟩) ?_
 ·rintro ⟨i, m⟩ ⟨i1, i2, i3⟩
  dsimp only at i1 i2 i3 ⊢
  refine W_if (fun hi => ?_) fun hi => ?_
  ·refine W_idx (by omega) (by omega) fun x hx => ?_
   have hm := List.mem_of_getElem? hx
   have kx := kin_outc (oka.one x hm) (ha x hm)
   refine W_eq (mgetO_w kx i3.kin) ?_
   rw [i3.getD]
   have hc : (a.take i.toNat).count x ≤ 5000 := Nat.le_trans List.count_le_length (by simp; omega)
   refine W_op fun v hv => ?_
   refine W_eq (mputO_w kx i3.kin) ?_
   refine W_op fun j hj => W_next ⟨⟨by dsimp only; omega, by dsimp only; omega, ?_⟩, by dsimp only; omega⟩
   dsimp only
   have hj' : j.toNat = i.toNat + 1 := by omega
   rw [hj']
   refine i3.put kx ?_ (by omega) fun k q => ?_
   ·rw [take_count hx, if_pos rfl, hv]
   ·rw [take_count hx, if_neg q]; simp
  ·refine W_done ?_
   dsimp only
   rwa [List.take_of_length_le (by omega)] at i3
 intro m0 hm0
 refine W_call (R := fun m => Cnt m fun k => (a.count k : Int) - b.count k) (W_iter (fun s : Int × MO => 0 ≤ s.1 ∧ s.1 ≤ (b.length : Int) ∧ Cnt s.2 fun k => (a.count k : Int) - ((b.take s.1.toNat).count k : Int)) (fun s => b.length - s.1.toNat) ?_ ⟨by simp, by simp, by simpa using hm0⟩) ?_
 ·rintro ⟨i, m⟩ ⟨i1, i2, i3⟩
  dsimp only at i1 i2 i3 ⊢
  refine W_if (fun hi => ?_) fun hi => ?_
  ·refine W_idx (by omega) (by omega) fun x hx => ?_
   have hm := List.mem_of_getElem? hx
   have kx := kin_outc (okb.one x hm) (hb x hm)
   refine W_eq (mgetO_w kx i3.kin) ?_
   rw [i3.getD]
   have hc : (b.take i.toNat).count x ≤ 5000 := Nat.le_trans List.count_le_length (by simp; omega)
   have hc' : a.count x ≤ 5000 := Nat.le_trans List.count_le_length la
   refine W_op fun v hv => ?_
   refine W_eq (mputO_w kx i3.kin) ?_
   refine W_eq (mgetO_w kx (kin_aput i3.kin kx)) ?_
   rw [aget_aput, if_pos rfl]
   have dx : (a.count x : Int) - ((b.take (i.toNat + 1)).count x : Int) = v := by rw [take_count hx, if_pos rfl, hv]; omega
   have dk : ∀ k, x ≠ k → (a.count k : Int) - ((b.take (i.toNat + 1)).count k : Int) = (a.count k : Int) - ((b.take i.toNat).count k : Int) := fun k q => by
    rw [take_count hx, if_neg q]; simp
   refine W_if (fun hz => ?_) fun hz => ?_
   ·refine W_eq (mdelO_w kx (kin_aput i3.kin kx)) ?_
    refine W_op fun j hj => W_next ⟨⟨by dsimp only; omega, by dsimp only; omega, ?_⟩, by dsimp only; omega⟩
    dsimp only
    have hj' : j.toNat = i.toNat + 1 := by omega
    rw [hj']
    exact i3.del kx (dx.trans hz) dk
   ·refine W_op fun j hj => W_next ⟨⟨by dsimp only; omega, by dsimp only; omega, ?_⟩, by dsimp only; omega⟩
    dsimp only
    have hj' : j.toNat = i.toNat + 1 := by omega
    rw [hj']
    exact i3.put kx dx hz dk
  ·refine W_done ?_
   dsimp only
   rwa [List.take_of_length_le (by omega)] at i3
 intro m1 hm1
 refine W_ret (.inr (.inr ⟨he, he', ?_⟩))
 have he := hm1.empty
 by_cases hl : m1.length = 0
 ·refine .inl ⟨by rw [hl]; rfl, fun k => ?_⟩
  have := he.1 hl k
  omega
 ·refine .inr ⟨?_, fun q => hl (he.2 fun k => by rw [q k]; omega)⟩
  have : ((m1.length : Int) == (0 : Int)) = false := by simpa using hl
  rw [this]
theorem own_w (l : List Outc) (hl : l.length ≤ 5010) : packhorselaw39_own l = some l := by
 unfold packhorselaw39_own
 have : app 56 ([] : List Outc) l = some l := by unfold app; rw [if_pos (by simp; omega)]; rfl
 rw [this]; rfl
structure Good (o : Outc) : Prop where
 t : 0 ≤ o.Tick ∧ o.Tick ≤ 1000
 n : 1 ≤ o.Node ∧ o.Node ≤ 4
 k : 1 ≤ o.Kind ∧ o.Kind ≤ 15
 id : if o.Kind ≤ 10 ∧ o.Kind ≠ 5 then 1 ≤ o.ID.Node ∧ o.ID.Node ≤ 2 ∧ 0 ≤ o.ID.Seq ∧ o.ID.Seq ≤ 2 ∧ o.ID.Off = 0 else o.ID.Node = 0 ∧ o.ID.Seq = 0 ∧ o.ID.Off = 0
 ot : if o.Kind = 6 ∨ o.Kind = 7 ∨ o.Kind = 10 ∨ o.Kind = 11 ∨ o.Kind = 13 then 1 ≤ o.Other ∧ o.Other ≤ 4 ∧ o.Other ≠ o.Node
  else if o.Kind = 12 then o.Other = 0 ∨ (1 ≤ o.Other ∧ o.Other ≤ 4 ∧ o.Other ≠ o.Node) else o.Other = 0
theorem mod_w (x : Int) : W (packhorsekit_Mod (x, 1048576)) fun r => 0 ≤ r ∧ r < 1048576 := by
 unfold packhorsekit_Mod
 dsimp only
 refine W_brd (fun h => absurd h (by decide)) (fun _ => ?_)
 refine W_remt (by decide) fun c hc => ?_
 have h1 := Int.tmod_lt_of_pos x (b := 1048576) (by decide)
 have h2 := Int.lt_tmod_of_pos x (b := 1048576) (by decide)
 rw [← hc] at h1 h2
 (first | refine W_op fun _ _ => ?_ | refine W_if ?_ ?_ <;> intro _ <;> try (exfalso; omega))
 ·(first | refine W_op fun _ _ => ?_ | refine W_if ?_ ?_ <;> intro _ <;> try (exfalso; omega))
  exact W_ret (by omega)
 ·exact W_ret (by omega)
theorem usesID_w (k : Int) (h1 : 1 ≤ k) (h2 : k ≤ 15) : packhorseref39_UsesID k = some (decide (k ≤ 10 ∧ k ≠ 5)) := by
 have h : k.toNat ≤ 15 := by omega
 have e : k = (k.toNat : Int) := by omega
 generalize k.toNat = n at h e
 subst e
 revert n
 decide +revert
structure Inv (s : List Outc × Int × Int) : Prop where
 len : (s.1.length : Int) = s.2.2 ∧ s.2.2 ≤ 30
 good : ∀ o ∈ s.1, Good o
 asc : s.1.Pairwise (fun x y => x.Tick ≤ y.Tick)
 last : ∀ o ∈ s.1, o.Tick ≤ s.2.1
 tick : 0 ≤ s.2.1 ∧ s.2.1 ≤ 2 * s.2.2
theorem Inv.app {l : List Outc} {t i t' i' : Int} {o : Outc} (h : Inv (l, t, i)) (hi : i < 30) (ho : Good o) (ht : o.Tick = t') (h1 : t ≤ t') (h2 : t' ≤ t + 2) (hi' : i' = i + 1) : Inv (l ++ [o], t', i') := by
 obtain ⟨a, b, c, d, e⟩ := h
 simp only at a b c d e
 refine ⟨by simp; omega, fun x hx => ?_, ?_, fun x hx => ?_, by simp only; omega⟩
 ·simp only [List.mem_append, List.mem_singleton] at hx
  rcases hx with hx | rfl
  ·exact b x hx
  ·exact ho
 ·refine List.pairwise_append.2 ⟨c, by simp, fun y hy z hz => ?_⟩
  simp only [List.mem_singleton] at hz
  subst hz
  have := d y hy
  omega
 ·simp only [List.mem_append, List.mem_singleton] at hx
  rcases hx with hx | rfl
  ·have := d x hx
   simp only; omega
  ·dsimp only; omega
set_option maxHeartbeats 4000000 in
theorem made_w (nums : List Int) : W (packhorselaw39_Made nums) fun l => l.length ≤ 30 ∧ (∀ o ∈ l, Good o) ∧ l.Pairwise (fun x y => x.Tick ≤ y.Tick) := by
 unfold packhorselaw39_Made
 refine W_loop (fun s => Inv s) (fun s => 30 - s.2.2.toNat) ?_ ⟨by simp, by simp, by simp, by simp, by simp⟩
 rintro ⟨l, tick, i⟩ hI
 have hlen := hI.len
 have htk := hI.tick
 simp only at hlen htk
 have fin : W (some l) fun l => l.length ≤ 30 ∧ (∀ o ∈ l, Good o) ∧ l.Pairwise (fun x y => x.Tick ≤ y.Tick) := W_ret ⟨by omega, hI.good, hI.asc⟩
 dsimp only
 (first | refine W_op fun _ _ => ?_ | refine W_if ?_ ?_ <;> intro _ <;> try (exfalso; omega))
 ·(first | refine W_op fun _ _ => ?_ | refine W_if ?_ ?_ <;> intro _ <;> try (exfalso; omega))
  ·refine W_idx (by omega) (by omega) fun x hx => ?_
   refine W_call (mod_w x) fun n hn => ?_
   clear hx
   iterate 8 (first | refine W_op fun _ _ => ?_ | refine W_if ?_ ?_ <;> intro _ <;> try (exfalso; omega))
   rename_i a1 e1 a2 e2 a3 e3 a4 e4 a5 e5 a6 e6 a7 e7 a8 e8
   have hk : 1 ≤ a8 ∧ a8 ≤ 15 := by omega
   have hnd : 1 ≤ a5 ∧ a5 ≤ 4 := by omega
   have htt : tick ≤ a2 ∧ a2 ≤ tick + 2 := by omega
   clear e1 e2 e3 e4 e5 e6 e7 e8
   refine W_eq (usesID_w a8 hk.1 hk.2) ?_
   refine W_brd (fun hu => ?_) (fun hu => ?_)
   ·iterate 5 (first | refine W_op fun _ _ => ?_ | refine W_if ?_ ?_ <;> intro _ <;> try (exfalso; omega))
    rename_i b1 f1 b2 f2 b3 f3 b4 f4 b5 f5
    have hw : Go.IntKind.wrap .u64 b5 = b5 := InR_u64 b5 (by omega)
    rw [hw]
    have hid : 1 ≤ b3 ∧ b3 ≤ 2 ∧ 0 ≤ b5 ∧ b5 ≤ 2 := by omega
    clear f1 f2 f3 f4 f5
    (first | refine W_op fun _ _ => ?_ | refine W_if ?_ ?_ <;> intro _ <;> try (exfalso; omega))
    ·iterate 2 (first | refine W_op fun _ _ => ?_ | refine W_if ?_ ?_ <;> intro _ <;> try (exfalso; omega))
     refine W_app (by simp only [List.length_cons, List.length_nil]; omega) ?_
     (first | refine W_op fun _ _ => ?_ | refine W_if ?_ ?_ <;> intro _ <;> try (exfalso; omega))
     refine W_next ⟨Inv.app hI (by omega) ⟨?_, ?_, ?_, ?_, ?_⟩ rfl (by omega) (by omega) (by omega), ?_⟩
     ·dsimp only; omega
     ·dsimp only; omega
     ·dsimp only; omega
     ·dsimp only; split <;> omega
     ·dsimp only; (repeat' split) <;> omega
     ·dsimp only; omega
    (first | refine W_op fun _ _ => ?_ | refine W_if ?_ ?_ <;> intro _ <;> try (exfalso; omega))
    ·iterate 2 (first | refine W_op fun _ _ => ?_ | refine W_if ?_ ?_ <;> intro _ <;> try (exfalso; omega))
     refine W_app (by simp only [List.length_cons, List.length_nil]; omega) ?_
     (first | refine W_op fun _ _ => ?_ | refine W_if ?_ ?_ <;> intro _ <;> try (exfalso; omega))
     refine W_next ⟨Inv.app hI (by omega) ⟨?_, ?_, ?_, ?_, ?_⟩ rfl (by omega) (by omega) (by omega), ?_⟩
     ·dsimp only; omega
     ·dsimp only; omega
     ·dsimp only; omega
     ·dsimp only; split <;> omega
     ·dsimp only; (repeat' split) <;> omega
     ·dsimp only; omega
    (first | refine W_op fun _ _ => ?_ | refine W_if ?_ ?_ <;> intro _ <;> try (exfalso; omega))
    ·iterate 2 (first | refine W_op fun _ _ => ?_ | refine W_if ?_ ?_ <;> intro _ <;> try (exfalso; omega))
     refine W_app (by simp only [List.length_cons, List.length_nil]; omega) ?_
     (first | refine W_op fun _ _ => ?_ | refine W_if ?_ ?_ <;> intro _ <;> try (exfalso; omega))
     refine W_next ⟨Inv.app hI (by omega) ⟨?_, ?_, ?_, ?_, ?_⟩ rfl (by omega) (by omega) (by omega), ?_⟩
     ·dsimp only; omega
     ·dsimp only; omega
     ·dsimp only; omega
     ·dsimp only; split <;> omega
     ·dsimp only; (repeat' split) <;> omega
     ·dsimp only; omega
    iterate 3 (first | refine W_op fun _ _ => ?_ | refine W_if ?_ ?_ <;> intro _ <;> try (exfalso; omega))
    refine W_app (by simp only [List.length_cons, List.length_nil]; omega) ?_
    (first | refine W_op fun _ _ => ?_ | refine W_if ?_ ?_ <;> intro _ <;> try (exfalso; omega))
    refine W_next ⟨Inv.app hI (by omega) ⟨?_, ?_, ?_, ?_, ?_⟩ rfl (by omega) (by omega) (by omega), ?_⟩
    ·dsimp only; omega
    ·dsimp only; omega
    ·dsimp only; omega
    ·dsimp only; split <;> omega
    ·dsimp only; (repeat' split) <;> omega
    ·dsimp only; omega
   ·iterate 4 (first | refine W_op fun _ _ => ?_ | refine W_if ?_ ?_ <;> intro _ <;> try (exfalso; omega))
    ·iterate 2 (first | refine W_op fun _ _ => ?_ | refine W_if ?_ ?_ <;> intro _ <;> try (exfalso; omega))
     refine W_app (by simp only [List.length_cons, List.length_nil]; omega) ?_
     (first | refine W_op fun _ _ => ?_ | refine W_if ?_ ?_ <;> intro _ <;> try (exfalso; omega))
     refine W_next ⟨Inv.app hI (by omega) ⟨?_, ?_, ?_, ?_, ?_⟩ rfl (by omega) (by omega) (by omega), ?_⟩
     ·dsimp only; omega
     ·dsimp only; omega
     ·dsimp only; omega
     ·dsimp only; split <;> omega
     ·dsimp only; (repeat' split) <;> omega
     ·dsimp only; omega
    (first | refine W_op fun _ _ => ?_ | refine W_if ?_ ?_ <;> intro _ <;> try (exfalso; omega))
    ·iterate 2 (first | refine W_op fun _ _ => ?_ | refine W_if ?_ ?_ <;> intro _ <;> try (exfalso; omega))
     refine W_app (by simp only [List.length_cons, List.length_nil]; omega) ?_
     (first | refine W_op fun _ _ => ?_ | refine W_if ?_ ?_ <;> intro _ <;> try (exfalso; omega))
     refine W_next ⟨Inv.app hI (by omega) ⟨?_, ?_, ?_, ?_, ?_⟩ rfl (by omega) (by omega) (by omega), ?_⟩
     ·dsimp only; omega
     ·dsimp only; omega
     ·dsimp only; omega
     ·dsimp only; split <;> omega
     ·dsimp only; (repeat' split) <;> omega
     ·dsimp only; omega
    (first | refine W_op fun _ _ => ?_ | refine W_if ?_ ?_ <;> intro _ <;> try (exfalso; omega))
    ·iterate 4 (first | refine W_op fun _ _ => ?_ | refine W_if ?_ ?_ <;> intro _ <;> try (exfalso; omega))
     rename_i c1 g1 c2 g2 c3 g3 c4 g4
     have hc : 0 ≤ c2 ∧ c2 ≤ 1 := by omega
     have hc4 : 1 ≤ c4 ∧ c4 ≤ 4 ∧ c4 ≠ a5 := by omega
     clear g1 g2 g3 g4
     have hm : c2 * c4 = 0 ∨ c2 * c4 = c4 := by
      rcases (show c2 = 0 ∨ c2 = 1 by omega) with rfl | rfl
      ·left; simp
      ·right; simp
     refine W_mul (by omega) (by omega) ?_
     intro _ _
     refine W_app (by simp only [List.length_cons, List.length_nil]; omega) ?_
     (first | refine W_op fun _ _ => ?_ | refine W_if ?_ ?_ <;> intro _ <;> try (exfalso; omega))
     refine W_next ⟨Inv.app hI (by omega) ⟨?_, ?_, ?_, ?_, ?_⟩ rfl (by omega) (by omega) (by omega), ?_⟩
     ·dsimp only; omega
     ·dsimp only; omega
     ·dsimp only; omega
     ·dsimp only; split <;> omega
     ·dsimp only; (repeat' split) <;> omega
     ·dsimp only; omega
    refine W_app (by simp only [List.length_cons, List.length_nil]; omega) ?_
    (first | refine W_op fun _ _ => ?_ | refine W_if ?_ ?_ <;> intro _ <;> try (exfalso; omega))
    refine W_next ⟨Inv.app hI (by omega) ⟨?_, ?_, ?_, ?_, ?_⟩ rfl (by omega) (by omega) (by omega), ?_⟩
    ·dsimp only; omega
    ·dsimp only; omega
    ·dsimp only; omega
    ·dsimp only; split <;> omega
    ·dsimp only; (repeat' split) <;> omega
    ·dsimp only; omega
  ·exact W_done fin
 ·exact W_done fin
theorem good_ok {o : Outc} (h : Good o) : OKO o := by
 obtain ⟨h1, h2, h3, h4, h5⟩ := h
 refine ⟨h3, ⟨by omega, by omega, by omega, by omega⟩, ?_, ?_⟩
 ·unfold okName okID
  split at h4
  ·rename_i q
   exact .inl ⟨q, by omega⟩
  ·rename_i q
   exact .inr ⟨q, h4⟩
 ·unfold okOther
  split at h5
  ·rename_i q
   exact .inl ⟨by omega, .inl (by omega)⟩
  ·rename_i q
   split at h5
   ·rename_i q2
    refine .inl ⟨by omega, ?_⟩
    rcases h5 with h5 | h5
    ·exact .inr ⟨q2, h5⟩
    ·exact .inl (by omega)
   ·rename_i q2
    exact .inr ⟨by omega, h5⟩
theorem vt_of {l : List Outc} (hl : l.length ≤ 5000) (h : OkT l) : VT l 0 := ⟨0, .inr (.inl ⟨hl, h, rfl⟩)⟩
theorem good_seq {o : Outc} (h : Good o) : 0 ≤ o.ID.Seq := by
 have := h.id
 split at this <;> omega
theorem same_ok {a b : List Outc} (ha : VT a 0) (hb : VT b 0) (sa : ∀ o ∈ a, 0 ≤ o.ID.Seq) (sb : ∀ o ∈ b, 0 ≤ o.ID.Seq) :
  ((∀ k, a.count k = b.count k) → trace_Same (a, b) = some (true, 0)) ∧ ((¬ ∀ k, a.count k = b.count k) → trace_Same (a, b) = some (false, 0)) := by
 obtain ⟨r, e, h⟩ := same_s a b sa sb
 constructor
 ·intro q
  rw [e, h.det (.inr (.inr ⟨ha, hb, .inl ⟨rfl, q⟩⟩))]
 ·intro q
  rw [e, h.det (.inr (.inr ⟨ha, hb, .inr ⟨rfl, q⟩⟩))]
theorem okT_of_pairwise {l : List Outc} (h1 : ∀ o ∈ l, OKO o) (h2 : l.Pairwise fun x y => x.Tick ≤ y.Tick) : OkT l := by
 refine ⟨h1, fun i x y hx hy => ?_⟩
 obtain ⟨a1, a2⟩ := List.getElem?_eq_some_iff.1 hx
 obtain ⟨b1, b2⟩ := List.getElem?_eq_some_iff.1 hy
 have := List.pairwise_iff_getElem.1 h2 i (i + 1) a1 b1 (by omega)
 rw [a2, b2] at this
 exact this
theorem OkT.set {l : List Outc} {i : Nat} {x y : Outc} (h : OkT l) (hx : l[i]? = some x) (ht : y.Tick = x.Tick) (hy : OKO y) : OkT (l.set i y) := by
 have hi := (List.getElem?_eq_some_iff.1 hx).1
 refine ⟨fun o ho => ?_, fun j a b ha hb => ?_⟩
 ·rcases List.mem_or_eq_of_mem_set ho with q | q
  ·exact h.one o q
  ·rw [q]; exact hy
 ·rw [List.getElem?_set] at ha hb
  have key : ∀ (k : Nat) z, (if i = k then if i < l.length then some y else none else l[k]?) = some z → ∃ z', l[k]? = some z' ∧ z.Tick = z'.Tick := by
   intro k z hz
   by_cases q : i = k
   ·subst q
    rw [if_pos rfl, if_pos hi] at hz
    cases hz
    exact ⟨x, hx, ht⟩
   ·rw [if_neg q] at hz
    exact ⟨z, hz, rfl⟩
  obtain ⟨a', ha', ea⟩ := key j a ha
  obtain ⟨b', hb', eb⟩ := key (j + 1) b hb
  rw [ea, eb]
  exact h.asc j a' b' ha' hb'
theorem crash_same {l m : List Outc} {i : Nat} {x : Outc} (hl : l.length ≤ 30) (hg : ∀ o ∈ l, Good o) (hv : VT l 0) (hm : m.length ≤ 30) (gm : ∀ o ∈ m, Good o) (hmo : OkT m) (hx : m[i]? = some x) :
  trace_Same (l, m.set i ⟨x.Tick, 9, 14, ⟨0, 0, 0⟩, 0⟩) = some (false, 0) := by
 have hi := (List.getElem?_eq_some_iff.1 hx).1
 have gx := gm x (List.mem_of_getElem? hx)
 have hy : OKO ⟨x.Tick, 9, 14, ⟨0, 0, 0⟩, 0⟩ := by
  have := gx.t
  refine ⟨by simp [okKind], ⟨by simp only; omega, by simp only; omega, by simp, by simp⟩, .inr ⟨by simp, rfl, rfl, rfl⟩, .inr ⟨by simp, rfl⟩⟩
 refine (same_ok hv (vt_of (by simp; omega) (OkT.set (y := ⟨x.Tick, 9, 14, ⟨0, 0, 0⟩, 0⟩) hmo hx rfl hy)) (fun o ho => good_seq (hg o ho)) (fun o ho => ?_)).2 fun q => ?_
 ·rcases List.mem_or_eq_of_mem_set ho with q | q
  ·exact good_seq (gm o q)
  ·rw [q]; exact Int.le_refl 0
 ·have h1 := q ⟨x.Tick, 9, 14, ⟨0, 0, 0⟩, 0⟩
  have h2 : l.count ⟨x.Tick, 9, 14, ⟨0, 0, 0⟩, 0⟩ = 0 := by
   rw [List.count_eq_zero]
   intro hq
   have := (hg _ hq).n
   simp only at this
   omega
  have h3 : 0 < (m.set i ⟨x.Tick, 9, 14, ⟨0, 0, 0⟩, 0⟩).count ⟨x.Tick, 9, 14, ⟨0, 0, 0⟩, 0⟩ := by
   rw [List.count_pos_iff]
   exact List.mem_set hi _
  omega
theorem modg_w (x n : Int) (h1 : 1 ≤ n) (h2 : n ≤ 1000) : W (packhorsekit_Mod (x, n)) fun r => 0 ≤ r ∧ r < n := by
 unfold packhorsekit_Mod
 dsimp only
 refine W_brd (fun h => absurd h (by omega)) (fun _ => ?_)
 refine W_remt (by omega) fun c hc => ?_
 have h3 := Int.tmod_lt_of_pos x (b := n) (by omega)
 have h4 := Int.lt_tmod_of_pos x (b := n) (by omega)
 rw [← hc] at h3 h4
 (first | refine W_op fun _ _ => ?_ | refine W_if ?_ ?_ <;> intro _ <;> try (exfalso; omega))
 ·(first | refine W_op fun _ _ => ?_ | refine W_if ?_ ?_ <;> intro _ <;> try (exfalso; omega))
  exact W_ret (by omega)
 ·exact W_ret (by omega)
theorem inB_eq {i : Int} {n : Nat} (h0 : 0 ≤ i) (h1 : i < n) : inB i n = true := by unfold inB; simp; omega
theorem count_swap {l : List Outc} {i : Nat} {x y : Outc} (hx : l[i]? = some x) (hy : l[i + 1]? = some y) (k : Outc) : ((l.set i y).set (i + 1) x).count k = l.count k := by
 obtain ⟨a1, a2⟩ := List.getElem?_eq_some_iff.1 hx
 obtain ⟨b1, b2⟩ := List.getElem?_eq_some_iff.1 hy
 have e : l = l.take i ++ x :: y :: l.drop (i + 2) := by
  have d1 : l.drop i = x :: l.drop (i + 1) := by rw [List.drop_eq_getElem_cons a1, a2]
  have d2 : l.drop (i + 1) = y :: l.drop (i + 2) := by rw [List.drop_eq_getElem_cons b1, b2]
  rw [← d2, ← d1, List.take_append_drop]
 have hlen : (l.take i).length = i := by simp; omega
 have e2 : (l.set i y).set (i + 1) x = l.take i ++ y :: x :: l.drop (i + 2) := by
  conv => lhs; rw [e]
  rw [List.set_append_right _ _ (by omega), hlen, Nat.sub_self, List.set_cons_zero, List.set_append_right _ _ (by omega), hlen, show i + 1 - i = 1 from by omega]
  rfl
 rw [e2]
 conv => rhs; rw [e]
 simp only [List.count_append, List.count_cons]
 omega
theorem traceOrder_w (nums : List Int) (at_ : Int) : packhorselaw39_TraceOrder (nums, at_) = some true := by
 refine W.eq ?_
 unfold packhorselaw39_TraceOrder
 dsimp only
 refine W_eq (a := true) rfl ?_
 refine W_call (made_w nums) fun l hl => ?_
 obtain ⟨h30, hg, hp⟩ := hl
 have hok : OkT l := okT_of_pairwise (fun o ho => good_ok (hg o ho)) hp
 have hv : VT l 0 := vt_of (by omega) hok
 have hs : ∀ o ∈ l, 0 ≤ o.ID.Seq := fun o ho => good_seq (hg o ho)
 refine W_eq ((same_ok hv hv hs hs).1 fun _ => rfl) ?_
 dsimp only
 refine W_brne (fun h => absurd rfl h) fun _ => ?_
 refine W_brnot ?_
 refine W_brT ?_
 refine W_brd (fun h => W_ret rfl) fun h2 => ?_
 refine W_op fun c hc => ?_
 refine W_call (modg_w at_ c (by omega) (by omega)) fun i hi => ?_
 have hown : packhorselaw39_own l = some l := own_w l (by omega)
 refine W_eq hown ?_
 refine W_idx (by omega) (by omega) fun x hx => ?_
 refine W_op fun j hj => ?_
 refine W_idx (by omega) (by omega) fun y hy => ?_
 have hy' : l[i.toNat + 1]? = some y := by rw [← hy]; congr 1; omega
 have i1 := (List.getElem?_eq_some_iff.1 hy').1
 refine W_if (fun ht => ?_) (fun ht => ?_)
 ·refine W_op fun j1 hj1 => ?_
  refine W_op fun j2 hj2 => ?_
  refine W_idx (by omega) (by omega) fun y2 hy2 => ?_
  have e2 : y2 = y := by
   rw [show j2.toNat = i.toNat + 1 from by omega, hy'] at hy2
   cases hy2; rfl
  subst e2
  refine W_idx (by omega) (by omega) fun x2 hx2 => ?_
  have e3 : x2 = x := by
   rw [hx] at hx2
   cases hx2; rfl
  subst e3
  rw [inB_eq (by omega) (by omega)]
  refine W_brT ?_
  refine W_idx (by omega) (by omega) fun _ _ => ?_
  rw [inB_eq (by omega) (by unfold setI; rw [List.length_set]; omega)]
  refine W_brT ?_
  refine W_idx (by omega) (by unfold setI; rw [List.length_set]; omega) fun _ _ => ?_
  have em : setI (setI l i y2) j1 x2 = (l.set i.toNat y2).set (i.toNat + 1) x2 := by
   unfold setI
   rw [show j1.toNat = i.toNat + 1 from by omega]
  rw [em]
  have gx := hg _ (List.mem_of_getElem? hx)
  have gy := hg _ (List.mem_of_getElem? hy')
  have ok1 : OkT (l.set i.toNat y2) := hok.set hx ht.symm (good_ok gy)
  have hy3 : (l.set i.toNat y2)[i.toNat + 1]? = some y2 := by rw [List.getElem?_set_ne (by omega)]; exact hy'
  have ok2 : OkT ((l.set i.toNat y2).set (i.toNat + 1) x2) := ok1.set hy3 ht (good_ok gx)
  have gm : ∀ o ∈ (l.set i.toNat y2).set (i.toNat + 1) x2, Good o := fun o ho => by
   rcases List.mem_or_eq_of_mem_set ho with q | q
   ·rcases List.mem_or_eq_of_mem_set q with q | q
    ·exact hg o q
    ·rw [q]; exact gy
   ·rw [q]; exact gx
  have len2 : ((l.set i.toNat y2).set (i.toNat + 1) x2).length = l.length := by simp
  refine W_eq ((same_ok hv (vt_of (by omega) ok2) hs (fun o ho => good_seq (gm o ho))).1 fun k => (count_swap hx hy' k).symm) ?_
  dsimp only
  refine W_brne (fun h => absurd rfl h) fun _ => ?_
  refine W_brnot ?_
  refine W_brT ?_
  refine W_idx (by omega) (by omega) fun z hz => ?_
  rw [inB_eq (by omega) (by omega)]
  refine W_brT ?_
  refine W_idx (by omega) (by omega) fun _ _ => ?_
  refine W_eq (crash_same (i := i.toNat) h30 hg hv (by omega) gm ok2 hz) ?_
  dsimp only
  refine W_brT ?_
  refine W_breq (fun _ => W_ret rfl) (fun h => absurd rfl h)
 ·refine W_idx (by omega) (by omega) fun z hz => ?_
  rw [inB_eq (by omega) (by omega)]
  refine W_brT ?_
  refine W_idx (by omega) (by omega) fun _ _ => ?_
  refine W_eq (crash_same (i := i.toNat) h30 hg hv h30 hg hok hz) ?_
  dsimp only
  refine W_brT ?_
  refine W_breq (fun _ => W_ret rfl) (fun h => absurd rfl h)
end Go.Proofs.YtjcbpfhlgebgdaaDoor
