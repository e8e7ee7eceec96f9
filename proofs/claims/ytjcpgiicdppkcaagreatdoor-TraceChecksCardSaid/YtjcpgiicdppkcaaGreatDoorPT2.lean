import Derived.Test.YtjcpgiicdppkcaaGreatDoorPT1
set_option linter.unusedSimpArgs false
set_option linter.unusedVariables false
namespace Go.Proofs.YtjcpgiicdppkcaaGreatDoor
open Go.X Go.Eng
theorem take_snoc {α : Type} {l : List α} {i : Nat} {x : α} (hx : l[i]? = some x) : l.take (i + 1) = l.take i ++ [x] := by rw [List.take_add_one, hx]; rfl
def isID (d : ID) (o : Outc) : Bool := (o.ID.Node == d.Node) && ((o.ID.Seq == d.Seq) && (o.ID.Off == d.Off))
def AT (l : List Outc) (good : Prop) (r : Int) : Prop := (∃ n, CT l (r, n) ∧ r ≠ 0) ∨ (l.length ≤ 5000 ∧ OkT l ∧ ((r = 0 ∧ good) ∨ (r = 2 ∧ ¬ good)))
theorem AT.det {l : List Outc} {g : Prop} {r r' : Int} (h : AT l g r) (h' : AT l g r') : r = r' := by
  rcases h with ⟨n, h1, h2⟩ | ⟨h1, h2, h3⟩ <;> rcases h' with ⟨m, k1, k2⟩ | ⟨k1, k2, k3⟩
  · have := h1.det k1; simp only [Prod.mk.injEq] at this; exact this.1
  · have := h1.det (.inr (.inl ⟨k1, k2, rfl⟩)); simp only [Prod.mk.injEq] at this; exact absurd this.1 h2
  · have := k1.det (.inr (.inl ⟨h1, h2, rfl⟩)); simp only [Prod.mk.injEq] at this; exact absurd this.1 k2
  · rcases h3 with ⟨rfl, a⟩ | ⟨rfl, a⟩ <;> rcases k3 with ⟨rfl, b⟩ | ⟨rfl, b⟩
    · rfl
    · exact absurd a b
    · exact absurd b a
    · rfl
theorem AT.ok {l : List Outc} {g : Prop} (h : AT l g 0) : l.length ≤ 5000 ∧ OkT l ∧ g := by
  rcases h with ⟨n, h1, h2⟩ | ⟨h1, h2, ⟨_, a⟩ | ⟨h, _⟩⟩
  · exact absurd rfl h2
  · exact ⟨h1, h2, a⟩
  · cases h
theorem valid_s (l : List Outc) : W (trace_valid l) fun e => ∃ n, CT l (e, n) := by
  unfold trace_valid
  refine W_call (check_s l) ?_
  rintro ⟨e, n⟩ h
  exact W_ret ⟨n, h⟩
def FR (l : List Outc) (good : Prop) (p : Outc → Bool) (r : List Outc × Int) : Prop := AT l good r.2 ∧ ((r.2 ≠ 0 ∧ r.1 = []) ∨ (r.2 = 0 ∧ r.1 = l.filter p))
theorem FR.det {l : List Outc} {g : Prop} {p : Outc → Bool} {r r' : List Outc × Int} (h : FR l g p r) (h' : FR l g p r') : r = r' := by
  obtain ⟨a, e⟩ := r
  obtain ⟨b, e'⟩ := r'
  obtain ⟨h1, h2⟩ := h
  obtain ⟨k1, k2⟩ := h'
  have he : e = e' := h1.det k1
  dsimp only at h2 k2
  subst he
  rcases h2 with ⟨a1, rfl⟩ | ⟨a1, rfl⟩ <;> rcases k2 with ⟨b1, rfl⟩ | ⟨b1, rfl⟩
  · rfl
  · exact absurd b1 a1
  · exact absurd a1 b1
  · rfl
theorem FR.len {l : List Outc} {g : Prop} {p : Outc → Bool} {r : List Outc × Int} (h : FR l g p r) : r.1.length ≤ 5000 := by
  obtain ⟨h1, ⟨_, h⟩ | ⟨h0, h⟩⟩ := h
  · rw [h]; simp
  · rw [h]
    rw [h0] at h1
    exact Nat.le_trans (List.length_filter_le _ _) h1.ok.1
theorem filterID_s (l : List Outc) (hl : l.length ≤ 5010) (d : ID) : W (trace_filter_f43 l d) fun r => r.1 = l.filter (isID d) := by
  unfold trace_filter_f43
  refine W_loop (fun s => 0 ≤ s.2.1 ∧ s.2.1 ≤ (l.length : Int) ∧ s.2.2 = d ∧ s.1 = (l.take s.2.1.toNat).filter (isID d)) (fun s => l.length - s.2.1.toNat) ?_ ⟨by simp, by simp, rfl, by simp⟩
  rintro ⟨out, i, d'⟩ ⟨i1, i2, i3, i4⟩
  dsimp only at i1 i2 i3 i4 ⊢
  subst i3
  have hol : out.length ≤ 5010 := by
    rw [i4]; exact Nat.le_trans (List.length_filter_le _ _) (by simp; omega)
  refine W_if (fun hi => ?_) fun hi => ?_
  · refine W_idx (by omega) (by omega) fun x hx => ?_
    have hq : trace_Of_1 x d' = some (isID d' x, d') := rfl
    refine W_eq hq ?_
    dsimp only
    refine W_br (fun hb => ?_) fun hb => ?_
    · refine W_app (by simp only [List.length_cons, List.length_nil]; omega) ?_
      refine W_op fun j hj => W_next ⟨⟨by dsimp only; omega, by dsimp only; omega, rfl, ?_⟩, by dsimp only; omega⟩
      dsimp only
      rw [show j.toNat = i.toNat + 1 from by omega, take_snoc hx, i4]
      simp [hb]
    · refine W_op fun j hj => W_next ⟨⟨by dsimp only; omega, by dsimp only; omega, rfl, ?_⟩, by dsimp only; omega⟩
      dsimp only
      rw [show j.toNat = i.toNat + 1 from by omega, take_snoc hx, i4]
      simp [hb]
  · refine W_done (W_ret ?_)
    dsimp only
    rw [i4, List.take_of_length_le (by omega)]
theorem of_s (l : List Outc) (d : ID) (hl : l.length ≤ 5010) : W (trace_Of (l, d)) (FR l (okID d) (isID d)) := by
  unfold trace_Of
  dsimp only
  refine W_call (valid_s l) ?_
  rintro e ⟨n, he⟩
  refine W_if (fun h => W_ret ⟨.inl ⟨n, he, h⟩, .inl ⟨h, rfl⟩⟩) fun h => ?_
  have h0 : e = 0 := Classical.byContradiction fun q => h q
  subst h0
  obtain ⟨h1, h2⟩ := he.ok
  refine W_call (checkID_s d) fun r hr => ?_
  rcases hr with ⟨rfl, hd⟩ | ⟨rfl, hd⟩
  · refine W_if (fun h => absurd rfl h) fun _ => ?_
    refine W_call (filterID_s l hl d) ?_
    rintro ⟨a, b⟩ hf
    exact W_ret ⟨.inr ⟨h1, h2, .inl ⟨rfl, hd⟩⟩, .inr ⟨rfl, hf⟩⟩
  · refine W_if (fun _ => W_ret ⟨.inr ⟨h1, h2, .inr ⟨rfl, hd⟩⟩, .inl ⟨by dsimp only; decide, rfl⟩⟩) fun h => absurd (by decide) h
theorem rof_s (l : List Outc) (d : ID) (hl : l.length ≤ 5010) : W (packhorseref39_Of (l, d)) (FR l (okID d) (isID d)) := by
  unfold packhorseref39_Of
  dsimp only
  refine W_call (rcheck_s l) ?_
  rintro ⟨e, n⟩ he
  dsimp only
  refine W_if (fun h => ?_) fun h => ?_
  · subst h
    obtain ⟨h1, h2⟩ := he.ok
    refine W_call (rcheckID_s d) fun r hr => ?_
    rcases hr with ⟨rfl, hd⟩ | ⟨rfl, hd⟩
    · refine W_if (fun h => absurd rfl h) fun _ => ?_
      refine W_loop (fun s => 0 ≤ s.2 ∧ s.2 ≤ (l.length : Int) ∧ s.1 = (l.take s.2.toNat).filter (isID d)) (fun s => l.length - s.2.toNat) ?_ ⟨by simp, by simp, by simp⟩
      rintro ⟨out, i⟩ ⟨i1, i2, i4⟩
      dsimp only at i1 i2 i4 ⊢
      have hol : out.length ≤ 5010 := by
        rw [i4]; exact Nat.le_trans (List.length_filter_le _ _) (by simp; omega)
      refine W_if (fun hi => ?_) fun hi => ?_
      · refine W_idx (by omega) (by omega) fun x hx => ?_
        have hox := h2.one x (List.mem_of_getElem? hx)
        refine W_eq (usesID_s x.Kind) ?_
        have no : isID d x = false → ∀ {j : Int}, j = i + 1 → out = (l.take j.toNat).filter (isID d) := by
          intro hb j hj
          rw [show j.toNat = i.toNat + 1 from by omega, take_snoc hx, i4]
          simp [hb]
        refine W_brd (fun hu => ?_) fun hu => ?_
        · refine W_idx (by omega) (by omega) fun x' hx' => ?_
          rw [hx] at hx'; cases hx'
          refine W_br (b := isID d x) (fun hb => ?_) fun hb => ?_
          · refine W_idx (by omega) (by omega) fun x' hx' => ?_
            rw [hx] at hx'; cases hx'
            refine W_app (by simp only [List.length_cons, List.length_nil]; omega) ?_
            refine W_op fun j hj => W_next ⟨⟨by dsimp only; omega, by dsimp only; omega, ?_⟩, by dsimp only; omega⟩
            dsimp only
            rw [show j.toNat = i.toNat + 1 from by omega, take_snoc hx, i4]
            simp [hb]
          · exact W_op fun j hj => W_next ⟨⟨by dsimp only; omega, by dsimp only; omega, no hb hj⟩, by dsimp only; omega⟩
        · refine W_op fun j hj => W_next ⟨⟨by dsimp only; omega, by dsimp only; omega, no ?_ hj⟩, by dsimp only; omega⟩
          have hk := hox.1
          unfold okKind at hk
          rcases hox.2.2.1 with ⟨q, _⟩ | ⟨_, q, _⟩
          · exact absurd ⟨hk.1, q.1, q.2⟩ hu
          · unfold okID at hd
            unfold isID
            rw [q]
            have : ((0 : Int) == d.Node) = false := by simp; omega
            rw [this]; rfl
      · refine W_done (W_ret ⟨.inr ⟨h1, h2, .inl ⟨rfl, hd⟩⟩, .inr ⟨rfl, ?_⟩⟩)
        dsimp only
        rw [i4, List.take_of_length_le (by omega)]
    · refine W_if (fun _ => W_ret ⟨.inr ⟨h1, h2, .inr ⟨rfl, hd⟩⟩, .inl ⟨by dsimp only; decide, rfl⟩⟩) fun h => absurd (by decide) h
  · refine W_if (fun h' => W_ret ⟨.inl ⟨n, he, h'⟩, .inl ⟨h', rfl⟩⟩) fun h' => absurd (Classical.byContradiction fun q => h' q) h
theorem filterN_s (l : List Outc) (hl : l.length ≤ 5010) (d : Int) : W (trace_filter_f46 l d) fun r => r.1 = l.filter (fun o => o.Node == d) := by
  unfold trace_filter_f46
  refine W_loop (fun s => 0 ≤ s.2.1 ∧ s.2.1 ≤ (l.length : Int) ∧ s.2.2 = d ∧ s.1 = (l.take s.2.1.toNat).filter (fun o => o.Node == d)) (fun s => l.length - s.2.1.toNat) ?_ ⟨by simp, by simp, rfl, by simp⟩
  rintro ⟨out, i, d'⟩ ⟨i1, i2, i3, i4⟩
  dsimp only at i1 i2 i3 i4 ⊢
  subst i3
  have hol : out.length ≤ 5010 := by
    rw [i4]; exact Nat.le_trans (List.length_filter_le _ _) (by simp; omega)
  refine W_if (fun hi => ?_) fun hi => ?_
  · refine W_idx (by omega) (by omega) fun x hx => ?_
    have hq : trace_At_1 x d' = some (x.Node == d', d') := rfl
    refine W_eq hq ?_
    dsimp only
    refine W_br (fun hb => ?_) fun hb => ?_
    · refine W_app (by simp only [List.length_cons, List.length_nil]; omega) ?_
      refine W_op fun j hj => W_next ⟨⟨by dsimp only; omega, by dsimp only; omega, rfl, ?_⟩, by dsimp only; omega⟩
      dsimp only
      rw [show j.toNat = i.toNat + 1 from by omega, take_snoc hx, i4]
      rw [List.filter_append, List.filter_cons, hb]; rfl
    · refine W_op fun j hj => W_next ⟨⟨by dsimp only; omega, by dsimp only; omega, rfl, ?_⟩, by dsimp only; omega⟩
      dsimp only
      rw [show j.toNat = i.toNat + 1 from by omega, take_snoc hx, i4]
      rw [List.filter_append, List.filter_cons, hb]; simp
  · refine W_done (W_ret ?_)
    dsimp only
    rw [i4, List.take_of_length_le (by omega)]
theorem at_s (l : List Outc) (d : Int) (hl : l.length ≤ 5010) : W (trace_At (l, d)) (FR l (1 ≤ d ∧ d ≤ 16) (fun o => o.Node == d)) := by
  unfold trace_At
  dsimp only
  refine W_call (valid_s l) ?_
  rintro e ⟨n, he⟩
  refine W_if (fun h => W_ret ⟨.inl ⟨n, he, h⟩, .inl ⟨h, rfl⟩⟩) fun h => ?_
  have h0 : e = 0 := Classical.byContradiction fun q => h q
  subst h0
  obtain ⟨h1, h2⟩ := he.ok
  refine W_if (fun h => W_ret ⟨.inr ⟨h1, h2, .inr ⟨rfl, by omega⟩⟩, .inl ⟨by dsimp only; decide, rfl⟩⟩) fun q1 => ?_
  refine W_if (fun h => W_ret ⟨.inr ⟨h1, h2, .inr ⟨rfl, by omega⟩⟩, .inl ⟨by dsimp only; decide, rfl⟩⟩) fun q2 => ?_
  refine W_call (filterN_s l hl d) ?_
  rintro ⟨a, b⟩ hf
  exact W_ret ⟨.inr ⟨h1, h2, .inl ⟨rfl, by omega⟩⟩, .inr ⟨rfl, hf⟩⟩
theorem rat_s (l : List Outc) (d : Int) (hl : l.length ≤ 5010) : W (packhorseref39_At (l, d)) (FR l (1 ≤ d ∧ d ≤ 16) (fun o => o.Node == d)) := by
  unfold packhorseref39_At
  dsimp only
  refine W_call (rcheck_s l) ?_
  rintro ⟨e, n⟩ he
  dsimp only
  refine W_if (fun h => W_ret ⟨.inl ⟨n, he, h⟩, .inl ⟨h, rfl⟩⟩) fun h => ?_
  have h0 : e = 0 := Classical.byContradiction fun q => h q
  subst h0
  obtain ⟨h1, h2⟩ := he.ok
  refine W_if (fun h => W_ret ⟨.inr ⟨h1, h2, .inr ⟨rfl, by omega⟩⟩, .inl ⟨by dsimp only; decide, rfl⟩⟩) fun q1 => ?_
  refine W_if (fun h => W_ret ⟨.inr ⟨h1, h2, .inr ⟨rfl, by omega⟩⟩, .inl ⟨by dsimp only; decide, rfl⟩⟩) fun q2 => ?_
  refine W_loop (fun s => 0 ≤ s.2 ∧ s.2 ≤ (l.length : Int) ∧ s.1 = (l.take s.2.toNat).filter (fun o => o.Node == d)) (fun s => l.length - s.2.toNat) ?_ ⟨by simp, by simp, by simp⟩
  rintro ⟨out, i⟩ ⟨i1, i2, i4⟩
  dsimp only at i1 i2 i4 ⊢
  have hol : out.length ≤ 5010 := by
    rw [i4]; exact Nat.le_trans (List.length_filter_le _ _) (by simp; omega)
  refine W_if (fun hi => ?_) fun hi => ?_
  · refine W_idx (by omega) (by omega) fun x hx => ?_
    refine W_br (fun hb => ?_) fun hb => ?_
    · refine W_idx (by omega) (by omega) fun x' hx' => ?_
      rw [hx] at hx'; cases hx'
      refine W_app (by simp only [List.length_cons, List.length_nil]; omega) ?_
      refine W_op fun j hj => W_next ⟨⟨by dsimp only; omega, by dsimp only; omega, ?_⟩, by dsimp only; omega⟩
      dsimp only
      rw [show j.toNat = i.toNat + 1 from by omega, take_snoc hx, i4]
      rw [List.filter_append, List.filter_cons, hb]; rfl
    · refine W_op fun j hj => W_next ⟨⟨by dsimp only; omega, by dsimp only; omega, ?_⟩, by dsimp only; omega⟩
      dsimp only
      rw [show j.toNat = i.toNat + 1 from by omega, take_snoc hx, i4]
      rw [List.filter_append, List.filter_cons, hb]; simp
  · refine W_done (W_ret ⟨.inr ⟨h1, h2, .inl ⟨rfl, by omega⟩⟩, .inr ⟨rfl, ?_⟩⟩)
    dsimp only
    rw [i4, List.take_of_length_le (by omega)]
theorem count_eq (l : List Outc) : trace_Count l = packhorseref39_Count l := by
  obtain ⟨⟨e, n⟩, h1, hc⟩ := check_s l
  obtain ⟨r', h2, hc'⟩ := rcheck_s l
  cases hc.det hc'
  unfold trace_Count packhorseref39_Count trace_valid
  rw [h1, h2]
  rfl
theorem count_s (l : List Outc) (hl : l.length ≤ 5010) : W (trace_Count l) fun r => r.1.length ≤ 15 := by
  unfold trace_Count
  refine W_call (valid_s l) ?_
  rintro e ⟨n, he⟩
  refine W_if (fun h => W_ret (by simp)) fun h => ?_
  have h0 : e = 0 := Classical.byContradiction fun q => h q
  subst h0
  obtain ⟨h1, h2⟩ := he.ok
  have hm : mkL (0 : Int) 8 (15 : Int) (15 : Int) = some (List.replicate 15 0) := by decide +kernel
  refine W_eq hm ?_
  refine W_loop (fun s => 0 ≤ s.2 ∧ s.2 ≤ (l.length : Int) ∧ s.1.length = 15 ∧ ∀ x ∈ s.1, 0 ≤ x ∧ x ≤ s.2) (fun s => l.length - s.2.toNat) ?_ ⟨by simp, by simp, by simp, by simp⟩
  rintro ⟨out, i⟩ ⟨i1, i2, i3, i4⟩
  dsimp only at i1 i2 i3 i4 ⊢
  refine W_if (fun hi => ?_) fun hi => ?_
  · refine W_idx (by omega) (by omega) fun x hx => ?_
    have hk := (h2.one x (List.mem_of_getElem? hx)).1
    unfold okKind at hk
    refine W_op fun k hk' => ?_
    refine W_idx (by omega) (by omega) fun v hv => ?_
    have hv' := i4 v (List.mem_of_getElem? hv)
    refine W_op fun v2 hv2 => ?_
    refine W_brin (by omega) (by omega) ?_
    refine W_idx (by omega) (by omega) fun v' _ => ?_
    refine W_op fun j hj => W_next ⟨⟨by dsimp only; omega, by dsimp only; omega, by simp [setI, i3], fun y hy => ?_⟩, by dsimp only; omega⟩
    dsimp only at hy
    unfold setI at hy
    rcases List.mem_or_eq_of_mem_set hy with hy | rfl
    · have := i4 y hy; dsimp only; omega
    · dsimp only; omega
  · exact W_done (W_ret (by dsimp only; omega))
def isL (o : Outc) : Bool := decide (o.Kind = 1 ∨ o.Kind = 8)
def goodL (f : List Outc) (n : Int) : Prop := ∃ a b, f = [a, b] ∧ a.Kind = 1 ∧ b.Kind = 8 ∧ n = b.Tick - a.Tick
def LR (l : List Outc) (d : ID) (r : Int × Int) : Prop := AT l (okID d) r.2 ∧ r.2 ≠ 0 ∧ r.1 = 0 ∨ (AT l (okID d) 0 ∧ ((∃ n, goodL ((l.filter (isID d)).filter isL) n ∧ r = (n, 0)) ∨ ((¬ ∃ n, goodL ((l.filter (isID d)).filter isL) n) ∧ r = (0, 8))))
theorem LR.det {l : List Outc} {d : ID} {r r' : Int × Int} (h : LR l d r) (h' : LR l d r') : r = r' := by
  rcases h with ⟨h1, h2, h3⟩ | ⟨h1, h⟩ <;> rcases h' with ⟨k1, k2, k3⟩ | ⟨k1, k⟩
  · exact Prod.ext (h3.trans k3.symm) (h1.det k1)
  · exact absurd (h1.det k1) h2
  · exact absurd (k1.det h1) k2
  · rcases h with ⟨n, ⟨a, b, e1, _, _, rfl⟩, rfl⟩ | ⟨h, rfl⟩ <;> rcases k with ⟨m, ⟨a', b', e2, _, _, rfl⟩, rfl⟩ | ⟨k, rfl⟩
    · rw [e1] at e2; cases e2; rfl
    · exact absurd ⟨_, a, b, e1, ‹_›, ‹_›, rfl⟩ k
    · exact absurd ⟨_, a', b', e2, ‹_›, ‹_›, rfl⟩ h
    · rfl
theorem filterL_s (l : List Outc) (hl : l.length ≤ 5010) : W (trace_filter_f47 l) fun r => r = l.filter isL := by
  unfold trace_filter_f47
  refine W_loop (fun s => 0 ≤ s.2 ∧ s.2 ≤ (l.length : Int) ∧ s.1 = (l.take s.2.toNat).filter isL) (fun s => l.length - s.2.toNat) ?_ ⟨by simp, by simp, by simp⟩
  rintro ⟨out, i⟩ ⟨i1, i2, i4⟩
  dsimp only at i1 i2 i4 ⊢
  have hol : out.length ≤ 5010 := by
    rw [i4]; exact Nat.le_trans (List.length_filter_le _ _) (by simp; omega)
  refine W_if (fun hi => ?_) fun hi => ?_
  · refine W_idx (by omega) (by omega) fun x hx => ?_
    have hq : trace_Latency_1 x = some (isL x) := by
      refine W.eq ?_
      unfold trace_Latency_1
      refine W_if (fun h => W_ret ?_) fun h => W_ret ?_
      · simp [isL, h]
      · simp [isL, h]; rfl
    refine W_eq hq ?_
    refine W_br (fun hb => ?_) fun hb => ?_
    · refine W_app (by simp only [List.length_cons, List.length_nil]; omega) ?_
      refine W_op fun j hj => W_next ⟨⟨by dsimp only; omega, by dsimp only; omega, ?_⟩, by dsimp only; omega⟩
      dsimp only
      rw [show j.toNat = i.toNat + 1 from by omega, take_snoc hx, i4]
      simp [hb]
    · refine W_op fun j hj => W_next ⟨⟨by dsimp only; omega, by dsimp only; omega, ?_⟩, by dsimp only; omega⟩
      dsimp only
      rw [show j.toNat = i.toNat + 1 from by omega, take_snoc hx, i4]
      simp [hb]
  · refine W_done (W_ret ?_)
    rw [i4, List.take_of_length_le (by omega)]
theorem latency_s (l : List Outc) (d : ID) (hl : l.length ≤ 5010) : W (trace_Latency (l, d)) (LR l d) := by
  unfold trace_Latency
  dsimp only
  refine W_call (of_s l d hl) ?_
  rintro ⟨a, e⟩ hr
  dsimp only
  have hal := hr.len
  obtain ⟨h1, h2⟩ := hr
  dsimp only at h1 h2 hal
  refine W_if (fun h => W_ret (.inl ⟨h1, h, rfl⟩)) fun h => ?_
  have h0 : e = 0 := Classical.byContradiction fun q => h q
  subst h0
  have ha : a = l.filter (isID d) := by
    rcases h2 with ⟨q, _⟩ | ⟨_, q⟩
    · exact absurd rfl q
    · exact q
  obtain ⟨hl5, hok, hd⟩ := h1.ok
  have tk : ∀ o ∈ a, 0 ≤ o.Tick ∧ o.Tick ≤ 1099511627776 := fun o ho => by
    rw [ha] at ho
    have := (hok.one o (List.mem_filter.1 ho).1).2.1
    omega
  refine W_call (filterL_s a (by omega)) fun f hf => ?_
  have hf' : f = (l.filter (isID d)).filter isL := by rw [hf, ha]
  have tf : ∀ o ∈ f, 0 ≤ o.Tick ∧ o.Tick ≤ 1099511627776 := fun o ho => by
    rw [hf] at ho
    exact tk o (List.mem_filter.1 ho).1
  have bad : (¬ ∃ n, goodL f n) → W (some ((0 : Int), (8 : Int))) (LR l d) := fun h => W_ret (.inr ⟨h1, .inr ⟨by rw [← hf']; exact h, rfl⟩⟩)
  refine W_if (fun h => bad ?_) fun hlen => ?_
  · rintro ⟨n, x, y, e, _⟩
    rw [e] at h; exact h rfl
  have hl2 : f.length = 2 := by omega
  match f, hl2, tf, hf', bad with
  | [x, y], _, tf, hf', bad =>
    refine W_eq (a := x) rfl ?_
    refine W_if (fun h => bad ?_) fun h3 => ?_
    · rintro ⟨n, x', y', e, h4, _⟩
      cases e
      exact h h4
    refine W_eq (a := y) rfl ?_
    refine W_if (fun h => bad ?_) fun h4 => ?_
    · rintro ⟨n, x', y', e, _, h5, _⟩
      cases e
      exact h h5
    refine W_eq (a := y) rfl ?_
    refine W_eq (a := x) rfl ?_
    have t1 := tf x (by simp)
    have t2 := tf y (by simp)
    refine W_op fun n hn => W_ret (.inr ⟨h1, .inl ⟨n, ?_, rfl⟩⟩)
    rw [← hf']
    exact ⟨x, y, rfl, by omega, by omega, hn⟩
def LI (f : List Outc) (fr to many : Int) : Prop :=
  ((∀ x ∈ f, x.Kind = 1) ∧ many = f.length ∧ to = -1 ∧ (f = [] → fr = -1) ∧ (∀ x, f.getLast? = some x → fr = x.Tick)) ∨
  (∃ g y, f = g ++ [y] ∧ y.Kind = 8 ∧ g ≠ [] ∧ (∀ x ∈ g, x.Kind = 1) ∧ many = g.length ∧ to = y.Tick ∧ (∀ x, g.getLast? = some x → fr = x.Tick))
theorem rlatency_s (l : List Outc) (d : ID) (hl : l.length ≤ 5010) : W (packhorseref39_Latency (l, d)) (LR l d) := by
  unfold packhorseref39_Latency
  dsimp only
  refine W_call (rof_s l d hl) ?_
  rintro ⟨a, e⟩ hr
  dsimp only
  have hal := hr.len
  obtain ⟨h1, h2⟩ := hr
  dsimp only at h1 h2 hal
  refine W_if (fun h => W_ret (.inl ⟨h1, h, rfl⟩)) fun h => ?_
  have h0 : e = 0 := Classical.byContradiction fun q => h q
  subst h0
  have ha : a = l.filter (isID d) := by
    rcases h2 with ⟨q, _⟩ | ⟨_, q⟩
    · exact absurd rfl q
    · exact q
  obtain ⟨hl5, hok, hd⟩ := h1.ok
  have tk : ∀ o ∈ a, 0 ≤ o.Tick ∧ o.Tick ≤ 1099511627776 := fun o ho => by
    rw [ha] at ho
    have := (hok.one o (List.mem_filter.1 ho).1).2.1
    omega
  have bad : (¬ ∃ n, goodL (a.filter isL) n) → W (some ((0 : Int), (8 : Int))) (LR l d) := fun h => W_ret (.inr ⟨h1, .inr ⟨by rw [← ha]; exact h, rfl⟩⟩)
  refine W_loop (fun s => 0 ≤ s.2.2.2 ∧ s.2.2.2 ≤ (a.length : Int) ∧ LI ((a.take s.2.2.2.toNat).filter isL) s.1 s.2.1 s.2.2.1) (fun s => a.length - s.2.2.2.toNat) ?_ ⟨by simp, by simp, .inl ⟨by simp, by simp, rfl, by simp, by simp⟩⟩
  rintro ⟨fr, to, many, i⟩ ⟨i1, i2, i3⟩
  dsimp only at i1 i2 i3 ⊢
  have split : ∀ {x : Outc}, a[i.toNat]? = some x → a.filter isL = (a.take i.toNat).filter isL ++ [x].filter isL ++ (a.drop (i.toNat + 1)).filter isL := by
    intro x hx
    rw [← List.filter_append, ← List.filter_append, ← take_snoc hx, List.take_append_drop]
  have hfl : ((a.take i.toNat).filter isL).length ≤ 5010 := Nat.le_trans (List.length_filter_le _ _) (by simp; omega)
  have tkf : ∀ o ∈ (a.take i.toNat).filter isL, 0 ≤ o.Tick ∧ o.Tick ≤ 1099511627776 := fun o ho => tk o (List.mem_of_mem_take (List.mem_filter.1 ho).1)
  refine W_if (fun hi => ?_) fun hi => ?_
  · refine W_idx (by omega) (by omega) fun x hx => ?_
    have hfull := split hx
    have hsn := take_snoc hx
    have tx := tk x (List.mem_of_getElem? hx)
    have nxt : ∀ {j : Int}, j = i + 1 → (a.take j.toNat).filter isL = (a.take i.toNat).filter isL ++ [x].filter isL := by
      intro j hj
      rw [show j.toNat = i.toNat + 1 from by omega, hsn, List.filter_append]
    generalize hF : (a.take i.toNat).filter isL = F at *
    refine W_if (fun hk => ?_) fun hk => ?_
    · have hx1 : [x].filter isL = [x] := by simp [isL, hk]
      rw [hx1] at hfull nxt
      refine W_if (fun hto => W_done (bad ?_)) fun hto => ?_
      · rintro ⟨n, p, q, e, _⟩
        rcases i3 with ⟨_, _, q3, _⟩ | ⟨g, y, e2, _, hg, _⟩
        · omega
        · rw [hfull, e2] at e
          have := congrArg List.length e
          have hgl := List.length_pos_iff.2 hg
          simp at this
          omega
      · rcases i3 with ⟨q1, q2, q3, q4, q5⟩ | ⟨g, y, e2, q2, hg, q3, q4, q5, q6⟩
        · refine W_idx (by omega) (by omega) fun x' hx' => ?_
          rw [hx] at hx'; cases hx'
          refine W_op fun m hm => ?_
          refine W_op fun j hj => W_next ⟨⟨by dsimp only; omega, by dsimp only; omega, .inl ⟨?_, ?_, q3, ?_, ?_⟩⟩, by dsimp only; omega⟩
          · rw [nxt hj]
            intro z hz
            rcases List.mem_append.1 hz with hz | hz
            · exact q1 z hz
            · simp at hz; subst hz; exact hk
          · rw [nxt hj]; simp; omega
          · rw [nxt hj]; simp
          · rw [nxt hj]; intro z hz; simp at hz; subst hz; rfl
        · have := tkf y (by rw [e2]; simp)
          omega
    · refine W_if (fun hk8 => ?_) fun hk8 => ?_
      · have hx1 : [x].filter isL = [x] := by simp [isL, hk8]
        rw [hx1] at hfull nxt
        refine W_if (fun hfr => W_done (bad ?_)) fun hfr => ?_
        · rintro ⟨n, p, q, e, hp1, _⟩
          rcases i3 with ⟨q1, _, q3, q4, q5⟩ | ⟨g, y, e2, _, hg, _, _, _, q6⟩
          · cases hFl : F.getLast? with
            | none =>
              have : F = [] := List.getLast?_eq_none_iff.1 hFl
              rw [hfull, this] at e
              simp at e
              have := e.1
              subst this
              omega
            | some z =>
              have := q5 z hFl
              have := tkf z (List.mem_of_getLast? hFl)
              omega
          · cases hgl : g.getLast? with
            | none => exact hg (List.getLast?_eq_none_iff.1 hgl)
            | some z =>
              have h7 := q6 z hgl
              have := tkf z (by rw [e2]; simp [List.mem_of_getLast? hgl])
              omega
        · refine W_if (fun hto => W_done (bad ?_)) fun hto => ?_
          · rintro ⟨n, p, q, e, _⟩
            rcases i3 with ⟨_, _, q3, _⟩ | ⟨g, y, e2, _, hg, _⟩
            · omega
            · rw [hfull, e2] at e
              have := congrArg List.length e
              have hgl := List.length_pos_iff.2 hg
              simp at this
              omega
          · rcases i3 with ⟨q1, q2, q3, q4, q5⟩ | ⟨g, y, e2, q2, hg, q3, q4, q5, q6⟩
            · refine W_idx (by omega) (by omega) fun x' hx' => ?_
              rw [hx] at hx'; cases hx'
              refine W_op fun j hj => ?_
              refine W_next ⟨⟨by dsimp only; omega, by dsimp only; omega, .inr ⟨F, x, nxt hj, hk8, fun h => ?_, q1, q2, rfl, q5⟩⟩, by dsimp only; omega⟩
              have := q4 h
              omega
            · have := tkf y (by rw [e2]; simp)
              omega
      · have hx1 : [x].filter isL = [] := by simp [isL, hk, hk8]
        rw [hx1, List.append_nil] at nxt
        refine W_op fun j hj => W_next ⟨⟨by dsimp only; omega, by dsimp only; omega, ?_⟩, by dsimp only; omega⟩
        dsimp only
        rw [nxt hj]
        exact i3
  · refine W_done ?_
    dsimp only [Sum.elim]
    rw [List.take_of_length_le (by omega)] at i3 tkf
    refine W_if (fun hm => bad ?_) fun hm => ?_
    · rintro ⟨n, p, q, e, hp, hq, _⟩
      rcases i3 with ⟨q1, q2, q3, q4, q5⟩ | ⟨g, y, e2, q2, hg, q3, q4, q5, q6⟩
      · have := q1 q (by rw [e]; simp)
        omega
      · rw [e2] at e
        have := congrArg List.length e
        simp at this
        omega
    refine W_if (fun ht => bad ?_) fun ht => ?_
    · rintro ⟨n, p, q, e, hp, hq, _⟩
      rcases i3 with ⟨q1, q2, q3, q4, q5⟩ | ⟨g, y, e2, q2, hg, q3, q4, q5, q6⟩
      · have := q1 q (by rw [e]; simp)
        omega
      · have := tkf y (by rw [e2]; simp)
        omega
    rcases i3 with ⟨q1, q2, q3, q4, q5⟩ | ⟨g, y, e2, q2, hg, q3, q4, q5, q6⟩
    · omega
    · have hg1 : g.length = 1 := by omega
      match g, hg1, q3, q6, e2 with
      | [x], _, q3, q6, e2 =>
        have hx := q6 x rfl
        have t1 := tkf x (by rw [e2]; simp)
        have t2 := tkf y (by rw [e2]; simp)
        refine W_op fun n hn => W_ret (.inr ⟨h1, .inl ⟨n, ?_, rfl⟩⟩)
        rw [← ha, e2]
        exact ⟨x, y, rfl, q3 x (by simp), q2, by omega⟩
theorem same_w (a : List Outc) (h : a.length ≤ 5010) : packhorselaw39_same (a, a) = some true := by
  refine W.eq ?_
  unfold packhorselaw39_same
  dsimp only
  refine W_if (fun h => absurd rfl h) fun _ => ?_
  refine W_loop (fun i : Int => 0 ≤ i ∧ i ≤ (a.length : Int)) (fun i => a.length - i.toNat) ?_ (by omega)
  rintro i ⟨i1, i2⟩
  refine W_if (fun hi => ?_) fun hi => W_done (W_ret rfl)
  refine W_idx (by omega) (by omega) fun x hx => ?_
  refine W_idx (by omega) (by omega) fun x' hx' => ?_
  rw [hx] at hx'; cases hx'
  simp only [beq_self_eq_true, Bool.and_self, Bool.not_true]
  refine W_brF ?_
  exact W_op fun j hj => W_next ⟨by omega, by omega⟩
theorem sameI_w (a : List Int) (h : a.length ≤ 1000) : packhorsekit_SameInts (a, a) = some true := by
  refine W.eq ?_
  unfold packhorsekit_SameInts
  dsimp only
  refine W_if (fun h => absurd rfl h) fun _ => ?_
  refine W_loop (fun i : Int => 0 ≤ i ∧ i ≤ (a.length : Int)) (fun i => a.length - i.toNat) ?_ (by omega)
  rintro i ⟨i1, i2⟩
  refine W_if (fun hi => ?_) fun hi => W_done (W_ret rfl)
  refine W_idx (by omega) (by omega) fun x hx => ?_
  refine W_idx (by omega) (by omega) fun x' hx' => ?_
  rw [hx] at hx'; cases hx'
  refine W_if (fun h => absurd rfl h) fun _ => ?_
  exact W_op fun j hj => W_next ⟨by omega, by omega⟩
theorem light_s (l : List Outc) : W (packhorselaw39_light l) fun r => r = true → l.length ≤ 5010 := by
  unfold packhorselaw39_light
  refine W_if (fun h => W_ret fun _ => by omega) fun h => ?_
  refine W_if (fun h => W_ret fun q => ?_) fun h => W_ret fun q => by cases q
  simp only [decide_eq_true_eq] at q
  omega
theorem traceChecks_w (l : List Outc) (d : ID) (node : Int) : packhorselaw39_TraceChecks (l, d, node) = some true := by
  have awake_w : packhorselaw39_awake () = some true := rfl
  refine W.eq ?_
  unfold packhorselaw39_TraceChecks
  dsimp only
  refine W_call (light_s l) fun r hr => ?_
  cases r with
  | false => exact W_brnot (W_brF (W_eq awake_w (W_ret rfl)))
  | true =>
    have hl := hr rfl
    refine W_brnot (W_brT ?_)
    have ho : packhorselaw39_own l = some l := by
      unfold packhorselaw39_own
      have : app 56 ([] : List Outc) l = some l := by unfold app; rw [if_pos (by simp; omega)]; rfl
      rw [this]; rfl
    refine W_eq ho ?_
    refine W_call (check_s l) fun r hr => ?_
    refine W_call (rcheck_s l) fun r' hr' => ?_
    obtain rfl := hr.det hr'
    obtain ⟨e, n⟩ := r
    dsimp only
    refine W_if (fun h => absurd rfl h) fun _ => ?_
    refine W_if (fun h => absurd rfl h) fun _ => ?_
    refine W_call (of_s l d hl) fun r hr => ?_
    refine W_call (rof_s l d hl) fun r' hr' => ?_
    obtain rfl := hr.det hr'
    have h1 := hr.len
    obtain ⟨a, e⟩ := r
    dsimp only at h1 ⊢
    refine W_eq (same_w a (by omega)) ?_
    refine W_brnot (W_brT ?_)
    refine W_if (fun h => absurd rfl h) fun _ => ?_
    refine W_call (at_s l node hl) fun r hr => ?_
    refine W_call (rat_s l node hl) fun r' hr' => ?_
    obtain rfl := hr.det hr'
    have h1 := hr.len
    obtain ⟨a, e⟩ := r
    dsimp only at h1 ⊢
    refine W_eq (same_w a (by omega)) ?_
    refine W_brnot (W_brT ?_)
    refine W_if (fun h => absurd rfl h) fun _ => ?_
    obtain ⟨⟨c, e⟩, hc, hcl⟩ := count_s l hl
    refine W_eq hc ?_
    refine W_eq ((count_eq l).symm.trans hc) ?_
    dsimp only at hcl ⊢
    refine W_call (latency_s l d hl) fun r hr => ?_
    refine W_call (rlatency_s l d hl) fun r' hr' => ?_
    obtain rfl := hr.det hr'
    obtain ⟨n, e'⟩ := r
    dsimp only
    refine W_eq (sameI_w c (by omega)) ?_
    simp only [beq_self_eq_true]
    refine W_brT (W_brT (W_brT (W_brT ?_)))
    refine W_eq (same_w l (by omega)) ?_
    refine W_brT ?_
    exact W_eq awake_w (W_ret rfl)
end Go.Proofs.YtjcpgiicdppkcaaGreatDoor
