import Derived.Test.YtjcpgiicdppkcaaDoorPT1
import Derived.Test.YtjcpgiicdppkcaaDoorXO
set_option linter.unusedSimpArgs false
set_option linter.unusedVariables false
namespace Go.Proofs.YtjcpgiicdppkcaaDoor
open Go.X Go.Eng
section
variable {α β : Type} [DecidableEq α]
theorem aget_none {m : List (α × β)} {k : α} (h : k ∉ m.map (·.1)) : aget m k = none := by
  induction m with
  | nil => rfl
  | cons e m ih =>
    obtain ⟨a, b⟩ := e
    simp only [List.map_cons, List.mem_cons, not_or] at h
    simp only [aget]
    rw [if_neg (fun q => h.1 q.symm)]
    exact ih h.2
theorem keys_aput {m : List (α × β)} {k : α} {v : β} {x : α} (h : x ∈ (aput m k v).map (·.1)) : x ∈ m.map (·.1) ∨ x = k := by
  induction m with
  | nil => simp [aput] at h; exact .inr h
  | cons e m ih =>
    obtain ⟨a, b⟩ := e
    simp only [aput] at h
    split at h
    · rename_i q
      subst q
      exact .inl h
    · simp only [List.map_cons, List.mem_cons] at h ⊢
      rcases h with h | h
      · exact .inl (.inl h)
      · rcases ih h with h | h
        · exact .inl (.inr h)
        · exact .inr h
theorem nodup_aput {m : List (α × β)} {k : α} {v : β} (h : (m.map (·.1)).Nodup) : ((aput m k v).map (·.1)).Nodup := by
  induction m with
  | nil => simp [aput]
  | cons e m ih =>
    obtain ⟨a, b⟩ := e
    simp only [List.map_cons, List.nodup_cons] at h
    simp only [aput]
    split
    · rename_i q
      subst q
      simpa using h
    · rename_i q
      simp only [List.map_cons, List.nodup_cons]
      refine ⟨fun hq => ?_, ih h.2⟩
      rcases keys_aput hq with hq | hq
      · exact h.1 hq
      · exact q hq
theorem mem_adel {m : List (α × β)} {k : α} {e : α × β} (h : e ∈ adel m k) : e ∈ m := by
  induction m with
  | nil => simp [adel] at h
  | cons x m ih =>
    obtain ⟨a, b⟩ := x
    simp only [adel] at h
    split at h
    · exact List.mem_cons_of_mem _ h
    · rcases List.mem_cons.1 h with h | h
      · rw [h]; simp
      · exact List.mem_cons_of_mem _ (ih h)
theorem nodup_adel {m : List (α × β)} {k : α} (h : (m.map (·.1)).Nodup) : ((adel m k).map (·.1)).Nodup := by
  induction m with
  | nil => simp [adel]
  | cons e m ih =>
    obtain ⟨a, b⟩ := e
    simp only [List.map_cons, List.nodup_cons] at h
    simp only [adel]
    split
    · exact h.2
    · simp only [List.map_cons, List.nodup_cons]
      refine ⟨fun hq => ?_, ih h.2⟩
      obtain ⟨e, he, hq⟩ := List.mem_map.1 hq
      exact h.1 (List.mem_map.2 ⟨e, mem_adel he, hq⟩)
theorem aget_adel {m : List (α × β)} {k k' : α} (h : (m.map (·.1)).Nodup) : aget (adel m k) k' = if k = k' then none else aget m k' := by
  induction m with
  | nil => simp [adel, aget]
  | cons e m ih =>
    obtain ⟨a, b⟩ := e
    simp only [List.map_cons, List.nodup_cons] at h
    simp only [adel]
    by_cases q : a = k
    · subst q
      rw [if_pos rfl]
      by_cases q2 : a = k'
      · subst q2
        rw [if_pos rfl]
        exact aget_none h.1
      · rw [if_neg q2]
        simp only [aget]
        rw [if_neg q2]
    · rw [if_neg q]
      simp only [aget]
      rw [ih h.2]
      by_cases q2 : a = k'
      · subst q2
        rw [if_pos rfl, if_neg (fun h => q h.symm), if_pos rfl]
      · rw [if_neg q2, if_neg q2]
end
theorem kin_outc {o : Outc} (h : OKO o) (hs : 0 ≤ o.ID.Seq) : kinC .Outc o = true := by
  obtain ⟨h1, h2, h3, h4⟩ := h
  unfold okKind at h1
  unfold okName okID at h3
  unfold okOther at h4
  simp only [kinC, Bool.and_eq_true, decide_eq_true_eq]
  exact ⟨⟨⟨⟨⟨⟨InR_i64 _ (by omega), InR_i64 _ (by omega)⟩, InR_i64 _ (by omega)⟩, InR_i64 _ (by omega)⟩, InR_u64 _ (by omega)⟩, InR_i64 _ (by omega)⟩, InR_i64 _ (by omega)⟩
abbrev MO := List (Outc × Int)
theorem mgetO_w {l : MO} {k : Outc} (hk : kinC .Outc k = true) (hl : ∀ e ∈ l, kinC .Outc e.1 = true) : mget (α := Outc) (β := Int) (kinC .Outc) l k = some (aget l k) := by
  unfold mget
  rw [hk, List.all_eq_true.2 hl]; rfl
theorem mputO_w {l : MO} {k : Outc} {v : Int} (hk : kinC .Outc k = true) (hl : ∀ e ∈ l, kinC .Outc e.1 = true) : mput (α := Outc) (β := Int) (kinC .Outc) l k v = some (aput l k v) := by
  unfold mput
  rw [hk, List.all_eq_true.2 hl]; rfl
theorem mdelO_w {l : MO} {k : Outc} (hk : kinC .Outc k = true) (hl : ∀ e ∈ l, kinC .Outc e.1 = true) : mdel (α := Outc) (β := Int) (kinC .Outc) l k = some (adel l k) := by
  unfold mdel
  rw [hk, List.all_eq_true.2 hl]; rfl
structure Cnt (m : MO) (d : Outc → Int) : Prop where
  nd : (m.map (·.1)).Nodup
  kin : ∀ e ∈ m, kinC .Outc e.1 = true
  get : ∀ k, aget m k = if d k = 0 then none else some (d k)
theorem Cnt.getD {m : MO} {d : Outc → Int} (h : Cnt m d) (k : Outc) : (aget m k).getD 0 = d k := by
  rw [h.get]
  split
  · rename_i q; rw [q]; rfl
  · rfl
theorem Cnt.empty {m : MO} {d : Outc → Int} (h : Cnt m d) : m.length = 0 ↔ ∀ k, d k = 0 := by
  constructor
  · intro hl k
    have : m = [] := List.eq_nil_of_length_eq_zero hl
    have hg := h.get k
    rw [this] at hg
    simp only [aget] at hg
    split at hg
    · assumption
    · cases hg
  · intro hd
    cases m with
    | nil => rfl
    | cons e m =>
      obtain ⟨a, b⟩ := e
      have := h.get a
      rw [if_pos (hd a)] at this
      simp [aget] at this
theorem kin_aput {m : MO} {k : Outc} {v : Int} (hm : ∀ e ∈ m, kinC .Outc e.1 = true) (hk : kinC .Outc k = true) : ∀ e ∈ aput m k v, kinC .Outc e.1 = true := by
  intro e he
  rcases mem_aput he with he | he
  · exact hm e he
  · rw [he]; exact hk
theorem Cnt.put {m : MO} {d d' : Outc → Int} {x : Outc} {v : Int} (h : Cnt m d) (hk : kinC .Outc x = true) (hv : d' x = v) (h0 : v ≠ 0) (hd : ∀ k, x ≠ k → d' k = d k) : Cnt (aput m x v) d' := by
  refine ⟨nodup_aput h.nd, kin_aput h.kin hk, fun k => ?_⟩
  rw [aget_aput]
  by_cases q : x = k
  · subst q
    rw [if_pos rfl, hv, if_neg h0]
  · rw [if_neg q, hd k q, h.get]
theorem Cnt.del {m : MO} {d d' : Outc → Int} {x : Outc} {v : Int} (h : Cnt m d) (hk : kinC .Outc x = true) (hv : d' x = 0) (hd : ∀ k, x ≠ k → d' k = d k) : Cnt (adel (aput m x v) x) d' := by
  refine ⟨nodup_adel (nodup_aput h.nd), fun e he => kin_aput h.kin hk e (mem_adel he), fun k => ?_⟩
  rw [aget_adel (nodup_aput h.nd)]
  by_cases q : x = k
  · subst q
    rw [if_pos rfl, hv, if_pos rfl]
  · rw [if_neg q, aget_aput, if_neg q, hd k q, h.get]
theorem take_count {l : List Outc} {i : Nat} {x : Outc} (hx : l[i]? = some x) (k : Outc) : ((l.take (i + 1)).count k : Int) = (l.take i).count k + (if x = k then 1 else 0) := by
  rw [List.take_add_one, hx, List.count_append]
  simp only [Option.toList_some, List.count_singleton]
  by_cases q : x = k <;> simp [q]
def VT (l : List Outc) (e : Int) : Prop := ∃ n, CT l (e, n)
theorem VT.det {l : List Outc} {e e' : Int} (h : VT l e) (h' : VT l e') : e = e' := by
  obtain ⟨n, h⟩ := h
  obtain ⟨n', h'⟩ := h'
  exact congrArg Prod.fst (h.det h')
theorem VT.ok {l : List Outc} (h : VT l 0) : l.length ≤ 5000 ∧ OkT l := by
  obtain ⟨n, h⟩ := h
  exact h.ok
theorem valid_s (l : List Outc) : W (trace_valid l) (VT l) := by
  unfold trace_valid
  refine W_call (check_s l) fun r hr => ?_
  obtain ⟨e, n⟩ := r
  exact W_ret ⟨n, hr⟩
def SM (a b : List Outc) (r : Bool × Int) : Prop := (∃ e, VT a e ∧ e ≠ 0 ∧ r = (false, e)) ∨ (VT a 0 ∧ ∃ e, VT b e ∧ e ≠ 0 ∧ r = (false, e)) ∨
  (VT a 0 ∧ VT b 0 ∧ ((r = (true, 0) ∧ ∀ k, a.count k = b.count k) ∨ (r = (false, 0) ∧ ¬ ∀ k, a.count k = b.count k)))
theorem SM.det {a b : List Outc} {r r' : Bool × Int} (h : SM a b r) (h' : SM a b r') : r = r' := by
  rcases h with ⟨e, h1, h2, rfl⟩ | ⟨h1, e, h2, h3, rfl⟩ | ⟨h1, h2, h3⟩ <;> rcases h' with ⟨e', k1, k2, rfl⟩ | ⟨k1, e', k2, k3, rfl⟩ | ⟨k1, k2, k3⟩
  · rw [h1.det k1]
  · exact absurd (h1.det k1) h2
  · exact absurd (h1.det k1) h2
  · exact absurd (k1.det h1) k2
  · rw [h2.det k2]
  · exact absurd (h2.det k2) h3
  · exact absurd (k1.det h1) k2
  · exact absurd (k2.det h2) k3
  · rcases h3 with ⟨rfl, h3⟩ | ⟨rfl, h3⟩ <;> rcases k3 with ⟨rfl, k3⟩ | ⟨rfl, k3⟩
    · rfl
    · exact absurd h3 k3
    · exact absurd k3 h3
    · rfl
theorem same_s (a b : List Outc) (ha : ∀ o ∈ a, 0 ≤ o.ID.Seq) (hb : ∀ o ∈ b, 0 ≤ o.ID.Seq) : W (trace_Same (a, b)) (SM a b) := by
  unfold trace_Same
  dsimp only
  refine W_call (valid_s a) fun e he => ?_
  refine W_if (fun h => W_ret (.inl ⟨e, he, h, rfl⟩)) fun h => ?_
  have h0 : e = 0 := Classical.byContradiction fun q => h q
  subst h0
  refine W_call (valid_s b) fun e he' => ?_
  refine W_if (fun h => W_ret (.inr (.inl ⟨he, e, he', h, rfl⟩))) fun h => ?_
  have h0 : e = 0 := Classical.byContradiction fun q => h q
  subst h0
  obtain ⟨la, oka⟩ := he.ok
  obtain ⟨lb, okb⟩ := he'.ok
  refine W_call (R := fun m => Cnt m fun k => (a.count k : Int)) (W_iter (fun s : Int × MO => 0 ≤ s.1 ∧ s.1 ≤ (a.length : Int) ∧ Cnt s.2 fun k => ((a.take s.1.toNat).count k : Int)) (fun s => a.length - s.1.toNat) ?_ ⟨by simp, by simp, ⟨by simp, by simp, by intro k; simp [aget]⟩⟩) ?_
  · rintro ⟨i, m⟩ ⟨i1, i2, i3⟩
    dsimp only at i1 i2 i3 ⊢
    refine W_if (fun hi => ?_) fun hi => ?_
    · refine W_idx (by omega) (by omega) fun x hx => ?_
      have hm := List.mem_of_getElem? hx
      have kx := kin_outc (oka.one x hm) (ha x hm)
      refine W_eq (mgetO_w kx i3.kin) ?_
      rw [i3.getD]
      have hc : (a.take i.toNat).count x ≤ 5000 := Nat.le_trans List.count_le_length (by simp; omega)
      refine W_op fun v hv => ?_
      refine W_eq (mputO_w kx i3.kin) ?_
      refine W_op fun j hj => W_next ⟨⟨by dsimp only; omega, by dsimp only; omega, ?_⟩, by dsimp only; omega⟩
      dsimp only
      have hj' : j.toNat = i.toNat + 1 := by omega
      rw [hj']
      refine i3.put kx ?_ (by omega) fun k q => ?_
      · rw [take_count hx, if_pos rfl, hv]
      · rw [take_count hx, if_neg q]; simp
    · refine W_done ?_
      dsimp only
      rwa [List.take_of_length_le (by omega)] at i3
  intro m0 hm0
  refine W_call (R := fun m => Cnt m fun k => (a.count k : Int) - b.count k) (W_iter (fun s : Int × MO => 0 ≤ s.1 ∧ s.1 ≤ (b.length : Int) ∧ Cnt s.2 fun k => (a.count k : Int) - ((b.take s.1.toNat).count k : Int)) (fun s => b.length - s.1.toNat) ?_ ⟨by simp, by simp, by simpa using hm0⟩) ?_
  · rintro ⟨i, m⟩ ⟨i1, i2, i3⟩
    dsimp only at i1 i2 i3 ⊢
    refine W_if (fun hi => ?_) fun hi => ?_
    · refine W_idx (by omega) (by omega) fun x hx => ?_
      have hm := List.mem_of_getElem? hx
      have kx := kin_outc (okb.one x hm) (hb x hm)
      refine W_eq (mgetO_w kx i3.kin) ?_
      rw [i3.getD]
      have hc : (b.take i.toNat).count x ≤ 5000 := Nat.le_trans List.count_le_length (by simp; omega)
      have hc' : a.count x ≤ 5000 := Nat.le_trans List.count_le_length la
      refine W_op fun v hv => ?_
      refine W_eq (mputO_w kx i3.kin) ?_
      refine W_eq (mgetO_w kx (kin_aput i3.kin kx)) ?_
      rw [aget_aput, if_pos rfl]
      have dx : (a.count x : Int) - ((b.take (i.toNat + 1)).count x : Int) = v := by rw [take_count hx, if_pos rfl, hv]; omega
      have dk : ∀ k, x ≠ k → (a.count k : Int) - ((b.take (i.toNat + 1)).count k : Int) = (a.count k : Int) - ((b.take i.toNat).count k : Int) := fun k q => by
        rw [take_count hx, if_neg q]; simp
      refine W_if (fun hz => ?_) fun hz => ?_
      · refine W_eq (mdelO_w kx (kin_aput i3.kin kx)) ?_
        refine W_op fun j hj => W_next ⟨⟨by dsimp only; omega, by dsimp only; omega, ?_⟩, by dsimp only; omega⟩
        dsimp only
        have hj' : j.toNat = i.toNat + 1 := by omega
        rw [hj']
        exact i3.del kx (dx.trans hz) dk
      · refine W_op fun j hj => W_next ⟨⟨by dsimp only; omega, by dsimp only; omega, ?_⟩, by dsimp only; omega⟩
        dsimp only
        have hj' : j.toNat = i.toNat + 1 := by omega
        rw [hj']
        exact i3.put kx dx hz dk
    · refine W_done ?_
      dsimp only
      rwa [List.take_of_length_le (by omega)] at i3
  intro m1 hm1
  refine W_ret (.inr (.inr ⟨he, he', ?_⟩))
  have he := hm1.empty
  by_cases hl : m1.length = 0
  · refine .inl ⟨by rw [hl]; rfl, fun k => ?_⟩
    have := he.1 hl k
    omega
  · refine .inr ⟨?_, fun q => hl (he.2 fun k => by rw [q k]; omega)⟩
    have : ((m1.length : Int) == (0 : Int)) = false := by simpa using hl
    rw [this]
theorem often_s (l : List Outc) (o : Outc) (hl : l.length ≤ 5000) : packhorseref39_often (l, o) = some (l.count o : Int) := by
  refine W.eq ?_
  unfold packhorseref39_often
  dsimp only
  refine W_loop (fun s : Int × Int => 0 ≤ s.2 ∧ s.2 ≤ (l.length : Int) ∧ s.1 = ((l.take s.2.toNat).count o : Int)) (fun s => l.length - s.2.toNat) ?_ ⟨by simp, by simp, by simp⟩
  rintro ⟨n, i⟩ ⟨i1, i2, i3⟩
  dsimp only at i1 i2 i3 ⊢
  refine W_if (fun hi => ?_) fun hi => ?_
  · refine W_idx (by omega) (by omega) fun x hx => ?_
    have hc : (l.take i.toNat).count o ≤ 5000 := Nat.le_trans List.count_le_length (by simp; omega)
    have heq : (x.Tick == o.Tick && (x.Node == o.Node && (x.Kind == o.Kind && (x.ID.Node == o.ID.Node && (x.ID.Seq == o.ID.Seq && (x.ID.Off == o.ID.Off && x.Other == o.Other)))))) = decide (x = o) := by
      obtain ⟨a, b, c, ⟨d, e, f⟩, g⟩ := x
      obtain ⟨a', b', c', ⟨d', e', f'⟩, g'⟩ := o
      rw [Bool.eq_iff_iff]
      simp [and_assoc]
    rw [heq]
    refine W_brd (fun q => ?_) fun q => ?_
    · refine W_op fun n' hn => ?_
      refine W_op fun j hj => W_next ⟨⟨by dsimp only; omega, by dsimp only; omega, ?_⟩, by dsimp only; omega⟩
      dsimp only
      rw [show j.toNat = i.toNat + 1 from by omega, take_count hx, if_pos q]
      omega
    · refine W_op fun j hj => W_next ⟨⟨by dsimp only; omega, by dsimp only; omega, ?_⟩, by dsimp only; omega⟩
      dsimp only
      rw [show j.toNat = i.toNat + 1 from by omega, take_count hx, if_neg q]
      omega
  · refine W_done (W_ret ?_)
    rw [i3, List.take_of_length_le (by omega)]
theorem sub_of_count : ∀ (a b : List Outc), (∀ x ∈ a, a.count x ≤ b.count x) → ∃ c, b.Perm (a ++ c)
  | [], b, _ => ⟨b, List.Perm.refl b⟩
  | x :: t, b, h => by
    have hx : x ∈ b := by
      have := h x (by simp)
      rw [List.count_cons_self] at this
      exact List.count_pos_iff.1 (by omega)
    have hp := List.perm_cons_erase hx
    obtain ⟨c, hc⟩ := sub_of_count t (b.erase x) fun y hy => by
      have h1 := h y (by simp [hy])
      rw [hp.count_eq y, List.count_cons, List.count_cons] at h1
      omega
    exact ⟨c, hp.trans (hc.cons x)⟩
theorem perm_of_count {a b : List Outc} (hl : a.length = b.length) (h : ∀ x ∈ a, a.count x = b.count x) : ∀ k, a.count k = b.count k := by
  obtain ⟨c, hc⟩ := sub_of_count a b fun x hx => Nat.le_of_eq (h x hx)
  have hl' := hc.length_eq
  rw [List.length_append] at hl'
  have : c = [] := List.eq_nil_of_length_eq_zero (by omega)
  subst this
  rw [List.append_nil] at hc
  exact fun k => (hc.count_eq k).symm
theorem rsame_s (a b : List Outc) : W (packhorseref39_Same (a, b)) (SM a b) := by
  unfold packhorseref39_Same
  dsimp only
  refine W_call (rcheck_s a) ?_
  rintro ⟨e, n⟩ hr
  dsimp only
  refine W_if (fun h => ?_) fun h => ?_
  rotate_left
  · refine W_if (fun h' => W_ret (.inl ⟨e, ⟨n, hr⟩, h, rfl⟩)) fun h' => absurd h h'
  subst h
  have va : VT a 0 := ⟨n, hr⟩
  refine W_call (rcheck_s b) ?_
  rintro ⟨e, n'⟩ hr'
  dsimp only
  refine W_if (fun h => W_ret (.inr (.inl ⟨va, e, ⟨n', hr'⟩, h, rfl⟩))) fun h => ?_
  have h0 : e = 0 := Classical.byContradiction fun q => h q
  subst h0
  have vb : VT b 0 := ⟨n', hr'⟩
  obtain ⟨la, oka⟩ := va.ok
  obtain ⟨lb, okb⟩ := vb.ok
  refine W_if (fun h => W_ret (.inr (.inr ⟨va, vb, .inr ⟨rfl, fun q => ?_⟩⟩))) fun hlen => ?_
  · have hp : a.Perm b := List.perm_iff_count.2 q
    exact h (by rw [hp.length_eq])
  have hlen' : a.length = b.length := by omega
  refine W_loop (fun i : Int => 0 ≤ i ∧ i ≤ (a.length : Int) ∧ ∀ x ∈ a.take i.toNat, a.count x = b.count x) (fun i => a.length - i.toNat) ?_ ⟨by omega, by omega, by simp⟩
  rintro i ⟨i1, i2, i3⟩
  refine W_if (fun hi => ?_) fun hi => ?_
  · refine W_idx (by omega) (by omega) fun x hx => ?_
    refine W_eq (often_s a x la) ?_
    refine W_idx (by omega) (by omega) fun x' hx' => ?_
    rw [hx] at hx'; cases hx'
    refine W_eq (often_s b x lb) ?_
    refine W_if (fun q => W_done (W_ret (.inr (.inr ⟨va, vb, .inr ⟨rfl, fun k => q (by rw [k x])⟩⟩)))) fun q => ?_
    refine W_op fun j hj => W_next ⟨⟨by omega, by omega, fun y hy => ?_⟩, by omega⟩
    rw [show j.toNat = i.toNat + 1 from by omega, List.take_add_one, hx] at hy
    rcases List.mem_append.1 hy with hy | hy
    · exact i3 y hy
    · simp at hy; subst hy; omega
  · refine W_done (W_ret (.inr (.inr ⟨va, vb, .inl ⟨rfl, ?_⟩⟩)))
    rw [List.take_of_length_le (by omega)] at i3
    exact perm_of_count hlen' i3
theorem light_s (l : List Outc) : W (packhorselaw39_light l) fun r => r = true → l.length ≤ 5010 := by
  unfold packhorselaw39_light
  refine W_if (fun h => W_ret fun _ => by omega) fun h => ?_
  refine W_if (fun h => W_ret fun q => ?_) fun h => W_ret fun q => by cases q
  simp only [decide_eq_true_eq] at q
  omega
theorem own_w (l : List Outc) (hl : l.length ≤ 5010) : packhorselaw39_own l = some l := by
  unfold packhorselaw39_own
  have : app 56 ([] : List Outc) l = some l := by unfold app; rw [if_pos (by simp; omega)]; rfl
  rw [this]; rfl
theorem fit_seq {l : List Outc} (h : fit (enc_l_Outc l)) : ∀ o ∈ l, 0 ≤ o.ID.Seq := by
  intro o ho
  have h1 : fit (enc_Outc o) := fitL_mem h.2 _ (List.mem_map.2 ⟨o, ho, rfl⟩)
  have h2 : (Lit.int .u64 o.ID.Seq).wf = true := h1.2.2.2.2.1
  have h3 : IntKind.min .u64 ≤ o.ID.Seq := by
    simp only [Lit.wf, Bool.and_eq_true, decide_eq_true_eq] at h2
    exact h2.1
  have h4 : IntKind.min .u64 = 0 := by decide
  omega
theorem traceSame_w (l m : List Outc) (hl : fit (enc_l_Outc l)) (hm : fit (enc_l_Outc m)) : packhorselaw39_TraceSame (l, m) = some true := by
  have awake_w : packhorselaw39_awake () = some true := rfl
  refine W.eq ?_
  unfold packhorselaw39_TraceSame
  dsimp only
  refine W_call (light_s l) fun r hr => ?_
  cases r with
  | false => exact W_brnot (W_brF (W_eq awake_w (W_ret rfl)))
  | true =>
    refine W_brnot (W_brT ?_)
    refine W_call (light_s m) fun r' hr' => ?_
    cases r' with
    | false => exact W_brnot (W_brF (W_eq awake_w (W_ret rfl)))
    | true =>
      refine W_brnot (W_brT ?_)
      refine W_eq (own_w l (hr rfl)) ?_
      refine W_eq (own_w m (hr' rfl)) ?_
      refine W_call (same_s l m (fit_seq hl) (fit_seq hm)) fun r hr => ?_
      refine W_call (rsame_s l m) fun r' hr' => ?_
      obtain rfl := hr.det hr'
      obtain ⟨a, e⟩ := r
      dsimp only
      simp only [beq_self_eq_true]
      exact W_brT (W_brT (W_eq awake_w (W_ret rfl)))
end Go.Proofs.YtjcpgiicdppkcaaDoor
