import Derived.Test.YtlodiacgkcnkmaaDoorP5b
import Derived.Test.YtlodiacgkcnkmaaDoorXGFew
set_option linter.unusedSimpArgs false
set_option linter.unusedVariables false
namespace Go.Proofs.YtlodiacgkcnkmaaDoor
open Go.X Go.Eng
theorem awake_w : packhorselaw05_awake () = some true := rfl
theorem fewest_w (nums : List Int) : packhorselaw05_EidFewest nums = some true := by
  refine W.eq ?_
  unfold packhorselaw05_EidFewest
  refine W_call (made_w nums) fun l ⟨hl, hok⟩ => ?_
  have hc := canon_eq (l := l) ⟨by omega, hok⟩
  by_cases hlen : 20 < (canonL l).length
  · rw [if_pos hlen] at hc
    refine W_eq hc ?_
    dsimp only
    refine W_brne (fun _ => ?_) (fun h => absurd h (by decide))
    refine W_breq (fun _ => ?_) (fun h => absurd rfl h)
    refine W_eq awake_w ?_
    exact W_ret rfl
  rw [if_neg hlen] at hc
  refine W_eq hc ?_
  dsimp only
  refine W_brne (fun h => absurd rfl h) fun _ => ?_
  have hlen' : (canonL l).length ≤ 20 := by omega
  have hord := List.pairwise_iff_getElem.1 (canon_ord l)
  have hce := canon_ok hok
  generalize canonL l = c at hlen' hord hce
  refine W_loop (fun i => 0 ≤ i ∧ i ≤ 1000) (fun i => c.length - i.toNat) ?_ ⟨by omega, by omega⟩
  rintro i ⟨i1, i2⟩
  refine W_op fun j hj => ?_
  refine W_if (fun h1 => ?_) (fun h1 => ?_)
  · refine W_idx i1 (by omega) fun a ha => ?_
    refine W_op fun k hk => ?_
    refine W_idx (by omega) (by omega) fun b hb => ?_
    have e1 : k.toNat = i.toNat + 1 := by omega
    rw [e1] at hb
    obtain ⟨g1, rfl⟩ := List.getElem?_eq_some_iff.1 ha
    obtain ⟨g2, rfl⟩ := List.getElem?_eq_some_iff.1 hb
    have ho := hord i.toNat (i.toNat + 1) g1 g2 (by omega)
    have ka := hce _ (List.getElem_mem g1)
    have kb := hce _ (List.getElem_mem g2)
    obtain ⟨b1, b2, b3, b4, b5⟩ := kb
    generalize c[i.toNat] = a at *
    generalize c[i.toNat + 1] = b at *
    unfold ordE at ho
    refine W_if (fun h2 => by omega) (fun h2 => ?_)
    refine W_if (fun h3 => ?_) (fun h3 => ?_)
    · refine W_op fun m hm => ?_
      refine W_if (fun h4 => by omega) (fun h4 => ?_)
      refine W_op fun n hn => ?_
      exact W_next ⟨⟨by omega, by omega⟩, by omega⟩
    · refine W_op fun n hn => ?_
      exact W_next ⟨⟨by omega, by omega⟩, by omega⟩
  · refine W_done ?_
    dsimp only [Sum.elim]
    refine W_eq awake_w ?_
    exact W_ret rfl
theorem same_w {a b : List EID} (h : a = b) (hl : a.length ≤ 1000) : packhorselaw05_same (a, b) = some true := by
  subst h
  refine W.eq ?_
  unfold packhorselaw05_same
  dsimp only
  refine W_brne (fun h => absurd rfl h) fun _ => ?_
  refine W_loop (fun i => 0 ≤ i ∧ i ≤ (a.length : Int)) (fun i => a.length - i.toNat) ?_ ⟨by omega, by omega⟩
  rintro i ⟨i1, i2⟩
  refine W_if (fun h1 => ?_) (fun h1 => ?_)
  · refine W_idx i1 h1 fun x hx => ?_
    refine W_idx i1 h1 fun y hy => ?_
    rw [hx] at hy
    cases hy
    refine W_brnot ?_
    refine W_br (fun _ => ?_) (fun h => by simp at h)
    refine W_op fun j hj => ?_
    exact W_next ⟨⟨by omega, by omega⟩, by omega⟩
  · exact W_done (W_ret rfl)
theorem sameInts_w {a b : List Int} (h : a = b) (hl : a.length ≤ 1000) : packhorsekit_SameInts (a, b) = some true := by
  subst h
  refine W.eq ?_
  unfold packhorsekit_SameInts
  dsimp only
  refine W_brne (fun h => absurd rfl h) fun _ => ?_
  refine W_loop (fun i => 0 ≤ i ∧ i ≤ (a.length : Int)) (fun i => a.length - i.toNat) ?_ ⟨by omega, by omega⟩
  rintro i ⟨i1, i2⟩
  refine W_if (fun h1 => ?_) (fun h1 => ?_)
  · refine W_idx i1 h1 fun x hx => ?_
    refine W_idx i1 h1 fun y hy => ?_
    rw [hx] at hy
    cases hy
    refine W_brne (fun h => absurd rfl h) fun _ => ?_
    refine W_op fun j hj => ?_
    exact W_next ⟨⟨by omega, by omega⟩, by omega⟩
  · exact W_done (W_ret rfl)
theorem has_w (l : List Int) (x : Int) (hl : l.length ≤ 1000) : packhorsekit_Has (l, x) = some (decide (x ∈ l)) := by
  refine W.eq ?_
  unfold packhorsekit_Has
  dsimp only
  refine W_loop (fun i => (0 ≤ i ∧ i ≤ (l.length : Int)) ∧ x ∉ l.take i.toNat) (fun i => l.length - i.toNat) ?_ ⟨⟨by omega, by omega⟩, by simp⟩
  rintro i ⟨⟨i1, i2⟩, i3⟩
  refine W_if (fun h1 => ?_) (fun h1 => ?_)
  · refine W_idx i1 h1 fun y hy => ?_
    refine W_breq (fun h2 => ?_) (fun h2 => ?_)
    · refine W_done (W_ret ?_)
      subst h2
      exact (decide_eq_true (List.mem_of_getElem? hy)).symm
    · refine W_op fun j hj => ?_
      refine W_next ⟨⟨⟨by omega, by omega⟩, ?_⟩, by omega⟩
      have : j.toNat = i.toNat + 1 := by omega
      rw [this, List.take_add_one, hy]
      simp only [Option.toList_some, List.mem_append, List.mem_singleton, not_or]
      exact ⟨i3, fun h => h2 h.symm⟩
  · refine W_done (W_ret ?_)
    have : i.toNat = l.length := by omega
    rw [this, List.take_length] at i3
    exact (decide_eq_false i3).symm
def nodesL (l : List EID) (s : Int) : List Int := ((List.range 17).filter (hits l s)).map fun n : Nat => (n : Int)
theorem nodes_eq {l : List EID} (h : OKP l) {s : Int} (h0 : 0 ≤ s) (h1 : s ≤ 999) : eid_Nodes (l, s) = some (nodesL l s, 0) := by
  refine W.eq ?_
  unfold eid_Nodes
  dsimp only
  refine W_eq (pattern_ok h) ?_
  have hlen := h.len
  refine W_breq (fun _ => ?_) (fun h => absurd rfl h)
  refine W_brd (fun h => absurd h (by omega)) fun _ => ?_
  refine W_brd (fun h => absurd h (by omega)) fun _ => ?_
  refine W_brne (fun h => absurd rfl h) fun _ => ?_
  refine W_eq (matched_eq h.ok (by omega) s) ?_
  refine W_loop (fun st => (0 ≤ st.2 ∧ st.2 ≤ 17) ∧ st.1 = ((List.range st.2.toNat).filter (hits l s)).map fun n : Nat => (n : Int)) (fun st => 17 - st.2.toNat) ?_ ⟨⟨by dsimp only; omega, by dsimp only; omega⟩, rfl⟩
  rintro ⟨out, i⟩ ⟨⟨i1, i2⟩, hO⟩
  dsimp only at i1 i2 hO ⊢
  rw [lit_tab]
  have hstep : ∀ j : Int, j = i + 1 → ((List.range j.toNat).filter (hits l s)).map (fun n : Nat => (n : Int)) = out ++ (if hits l s i.toNat = true then [i] else []) := by
    intro j hj
    have : j.toNat = i.toNat + 1 := by omega
    rw [this, List.range_succ, List.filter_append, List.map_append, ← hO]
    congr 1
    rw [List.filter_cons]
    split
    · simp only [List.filter_nil, List.map_cons, List.map_nil]
      congr 1
      omega
    · rfl
  have hol : out.length ≤ 17 := by
    rw [hO, List.length_map]
    refine Nat.le_trans (List.length_filter_le _ _) ?_
    simp; omega
  refine W_if (fun h1 => ?_) (fun h1 => ?_)
  · refine W_brin i1 (by omega) ?_
    refine W_idxT i1 (by omega) ?_
    refine W_br (fun hf => ?_) (fun hf => ?_)
    · refine W_appc (by simp; omega) fun o ho => ?_
      refine W_op fun j hj => ?_
      refine W_next ⟨⟨⟨by dsimp only; omega, by dsimp only; omega⟩, ?_⟩, by dsimp only; omega⟩
      dsimp only
      rw [hstep j hj, if_pos hf, ho]
    · refine W_op fun j hj => ?_
      refine W_next ⟨⟨⟨by dsimp only; omega, by dsimp only; omega⟩, ?_⟩, by dsimp only; omega⟩
      dsimp only
      rw [hstep j hj, if_neg (by rw [hf]; decide), List.append_nil]
  · refine W_done (W_ret ?_)
    have : i.toNat = 17 := by omega
    rw [hO, this]
    rfl
theorem match_eq {l : List EID} (h : OKP l) {n s : Int} (n0 : 1 ≤ n) (n1 : n ≤ 16) (h0 : 0 ≤ s) (h1 : s ≤ 999) : eid_Match (l, n, s) = some (hits l s n.toNat, 0) := by
  refine W.eq ?_
  unfold eid_Match
  dsimp only
  refine W_eq (pattern_ok h) ?_
  have hlen := h.len
  refine W_breq (fun _ => ?_) (fun h => absurd rfl h)
  refine W_brd (fun h => absurd h (by omega)) fun _ => ?_
  refine W_brd (fun h => absurd h (by omega)) fun _ => ?_
  refine W_brd (fun h => absurd h (by omega)) fun _ => ?_
  refine W_brd (fun h => absurd h (by omega)) fun _ => ?_
  refine W_brne (fun h => absurd rfl h) fun _ => ?_
  refine W_eq (matched_eq h.ok (by omega) s) ?_
  refine W_brin (by omega) (by omega) ?_
  rw [lit_tab]
  refine W_idxT (by omega) (by omega) ?_
  exact W_ret rfl
theorem nodesL_len (l : List EID) (s : Int) : (nodesL l s).length ≤ 17 := by
  unfold nodesL
  rw [List.length_map]
  exact Nat.le_trans (List.length_filter_le _ _) (by simp)
theorem nodesL_mem {l : List EID} {s n : Int} (n0 : 1 ≤ n) (n1 : n ≤ 16) : decide (n ∈ nodesL l s) = hits l s n.toNat := by
  rw [Bool.eq_iff_iff, decide_eq_true_eq]
  unfold nodesL
  rw [List.mem_map]
  constructor
  · rintro ⟨k, hk, rfl⟩
    exact (List.mem_filter.1 hk).2
  · intro h
    exact ⟨n.toNat, List.mem_filter.2 ⟨by rw [List.mem_range]; omega, h⟩, by omega⟩
theorem nodesL_congr {a b : List EID} {s : Int} (h : ∀ n, n < 17 → hits a s n = hits b s n) : nodesL a s = nodesL b s := by
  unfold nodesL
  congr 1
  refine List.filter_congr fun n hn => ?_
  exact h n (by simpa using hn)
theorem alike_w {a b : List EID} (ha : OKP a) (hb : OKP b) (h : ∀ s n, -1 ≤ s ∧ s ≤ 999 → n < 17 → hits a s n = hits b s n) : packhorselaw05_alike (a, b) = some true := by
  refine W.eq ?_
  unfold packhorselaw05_alike
  dsimp only
  have inner : ∀ (s : Int), 0 ≤ s → s ≤ 999 → iter (σ := Int) (ρ := (Bool) ⊕ (Unit)) (fun n_9 =>
                br (decide (n_9 ≤ (16 : Int)))
                  ((eid_Match (a, n_9, s)).bind fun (x_10, x_11) =>
                  br (x_11 != (0 : Int))
                    (some (.done (.inl false)))
                    ((packhorsekit_Has (nodesL a s, n_9)).bind fun x_12 =>
                    br (!(x_10 == x_12))
                      (some (.done (.inl false)))
                      ((addI .i64 n_9 (1 : Int)).bind fun x_13 =>
                      some (.next x_13))))
                  (some (.done (.inr ())))) (1 : Int) = some (.inr ()) := by
    intro s s0 s1
    refine W.eq ?_
    refine W_iter (fun n => 1 ≤ n ∧ n ≤ 17) (fun n => 17 - n.toNat) ?_ ⟨by omega, by omega⟩
    rintro n ⟨n0, n1⟩
    dsimp only
    refine W_if (fun h1 => ?_) (fun h1 => ?_)
    · refine W_eq (match_eq ha n0 (by omega) s0 s1) ?_
      dsimp only
      refine W_brne (fun h => absurd rfl h) fun _ => ?_
      refine W_eq (has_w _ _ (by have := nodesL_len a s; omega)) ?_
      rw [nodesL_mem n0 (by omega)]
      refine W_brnot ?_
      refine W_br (fun _ => ?_) (fun h => by simp at h)
      refine W_op fun j hj => ?_
      exact W_next ⟨⟨by omega, by omega⟩, by omega⟩
    · exact W_done rfl
  refine W_loop (fun s => 0 ≤ s ∧ s ≤ 7) (fun s => 7 - s.toNat) ?_ ⟨by omega, by omega⟩
  rintro s ⟨s0, s1⟩
  refine W_if (fun h1 => ?_) (fun h1 => ?_)
  · refine W_if (fun h2 => ?_) (fun h2 => ?_)
    · refine W_eq (nodes_eq ha (by omega) (by omega)) ?_
      dsimp only
      refine W_eq (nodes_eq hb (by omega) (by omega)) ?_
      dsimp only
      refine W_brne (fun h => absurd rfl h) fun _ => ?_
      refine W_brne (fun h => absurd rfl h) fun _ => ?_
      refine W_eq (sameInts_w (nodesL_congr fun n hn => h _ n (by omega) hn) (by have := nodesL_len a 999; omega)) ?_
      refine W_brnot (W_brT ?_)
      refine W_eq (inner 999 (by omega) (by omega)) ?_
      dsimp only [Sum.elim]
      refine W_op fun j hj => ?_
      exact W_next ⟨⟨by omega, by omega⟩, by omega⟩
    · refine W_eq (nodes_eq ha s0 (by omega)) ?_
      dsimp only
      refine W_eq (nodes_eq hb s0 (by omega)) ?_
      dsimp only
      refine W_brne (fun h => absurd rfl h) fun _ => ?_
      refine W_brne (fun h => absurd rfl h) fun _ => ?_
      refine W_eq (sameInts_w (nodesL_congr fun n hn => h _ n (by omega) hn) (by have := nodesL_len a s; omega)) ?_
      refine W_brnot (W_brT ?_)
      refine W_eq (inner s s0 (by omega)) ?_
      dsimp only [Sum.elim]
      refine W_op fun j hj => ?_
      exact W_next ⟨⟨by omega, by omega⟩, by omega⟩
  · exact W_done (W_ret rfl)
theorem canonlaw_w (nums : List Int) : packhorselaw05_EidCanon nums = some true := by
  refine W.eq ?_
  unfold packhorselaw05_EidCanon
  refine W_call (made_w nums) fun l ⟨hl, hok⟩ => ?_
  have hP : OKP l := ⟨by omega, hok⟩
  have hc := canon_eq hP
  by_cases hlen : 20 < (canonL l).length
  · rw [if_pos hlen] at hc
    refine W_eq hc ?_
    dsimp only
    refine W_breq (fun _ => ?_) (fun h => absurd rfl h)
    refine W_if (fun _ => ?_) (fun h => ?_)
    · refine W_eq awake_w ?_
      exact W_ret rfl
    · exfalso
      have hn : l = [] := List.eq_nil_of_length_eq_zero (by omega)
      subst hn
      have : canonL [] = [] := by
        unfold canonL
        rw [List.flatMap_eq_nil_iff]
        intro s _
        exact rgs_none fun n _ => gset_none (by simp) n
      rw [this] at hlen
      simp at hlen
  rw [if_neg hlen] at hc
  refine W_eq hc ?_
  dsimp only
  refine W_breq (fun h => absurd h (by decide)) fun _ => ?_
  refine W_op fun last hlast => ?_
  refine W_loop (fun st => (-1 ≤ st.2 ∧ st.2 < (l.length : Int) ∧ ((st.1.length : Int) = (l.length - 1 - st.2) + ((l.length : Int) + 2) / 3 - (st.2 + 3) / 3)) ∧ (∀ e ∈ st.1, e ∈ l) ∧ ∀ k : Nat, st.2 < (k : Int) → ∀ e, l[k]? = some e → e ∈ st.1) (fun st => (st.2 + 1).toNat) ?_ ⟨⟨by dsimp only; omega, by dsimp only; omega, by simp; omega⟩, by simp, ?_⟩
  rotate_left
  · intro k hk e he
    have := (List.getElem?_eq_some_iff.1 he).1
    dsimp only at hk
    omega
  rintro ⟨back, i⟩ ⟨⟨i1, i2, i3⟩, i4, i5⟩
  dsimp only at i1 i2 i3 i4 i5 ⊢
  refine W_if (fun h1 => ?_) (fun h1 => ?_)
  · refine W_idx h1 i2 fun x hx => ?_
    refine W_appc (by simp; omega) fun o ho => ?_
    refine W_rem h1 (by decide) fun m hm => ?_
    refine W_breq (fun _ => ?_) (fun _ => ?_)
    · refine W_idx h1 i2 fun y hy => ?_
      refine W_appc (by rw [ho]; simp; omega) fun q hq => ?_
      refine W_op fun j hj => ?_
      refine W_next ⟨⟨⟨by dsimp only; omega, by dsimp only; omega, ?_⟩, ?_, ?_⟩, by dsimp only; omega⟩
      · rw [hq, ho]; simp; omega
      · intro e he
        rw [hq, ho] at he
        simp only [List.mem_append, List.mem_singleton] at he
        rcases he with (he | he) | he
        · exact i4 e he
        · rw [he]; exact List.mem_of_getElem? hx
        · rw [he]; exact List.mem_of_getElem? hy
      · intro k hk e he
        dsimp only at hk ⊢
        rw [hq, ho]
        simp only [List.mem_append, List.mem_singleton]
        by_cases e' : (k : Int) = i
        · have : k = i.toNat := by omega
          rw [this, hx] at he
          cases he
          exact .inl (.inr rfl)
        · exact .inl (.inl (i5 k (by omega) e he))
    · refine W_op fun j hj => ?_
      refine W_next ⟨⟨⟨by dsimp only; omega, by dsimp only; omega, ?_⟩, ?_, ?_⟩, by dsimp only; omega⟩
      · rw [ho]; simp; omega
      · intro e he
        rw [ho] at he
        simp only [List.mem_append, List.mem_singleton] at he
        rcases he with he | he
        · exact i4 e he
        · rw [he]; exact List.mem_of_getElem? hx
      · intro k hk e he
        dsimp only at hk ⊢
        rw [ho]
        simp only [List.mem_append, List.mem_singleton]
        by_cases e' : (k : Int) = i
        · have : k = i.toNat := by omega
          rw [this, hx] at he
          cases he
          exact .inr rfl
        · exact .inl (i5 k (by omega) e he)
  · refine W_done ?_
    dsimp only
    have hmem : ∀ e, e ∈ back ↔ e ∈ l := by
      intro e
      refine ⟨i4 e, fun he => ?_⟩
      obtain ⟨k, hk, rfl⟩ := List.mem_iff_getElem.1 he
      exact i5 k (by omega) _ (List.getElem?_eq_getElem hk)
    have hi : i = -1 := by omega
    subst hi
    have hbl : back.length ≤ 20 := by omega
    have hbok : ∀ e ∈ back, OKE e := fun e he => hok e ((hmem e).1 he)
    have hB : OKP back := ⟨hbl, hbok⟩
    have hC : OKP (canonL l) := ⟨by omega, canon_ok hok⟩
    have hcc : canonL (canonL l) = canonL l := canon_congr fun s n hs hn => canon_hits hs hn
    have hcb : canonL back = canonL l := canon_congr fun s n _ _ => hits_mem hmem s n
    refine W_eq (canon_eq hC) ?_
    rw [hcc, if_neg hlen]
    dsimp only
    refine W_eq (canon_eq hB) ?_
    rw [hcb, if_neg hlen]
    dsimp only
    iterate 3 (refine W_breq (fun _ => ?_) (fun h => absurd rfl h))
    refine W_eq (same_w rfl (by omega)) ?_
    refine W_brT ?_
    refine W_eq (same_w rfl (by omega)) ?_
    refine W_brT ?_
    refine W_eq (alike_w hP hC fun s n hs hn => (canon_hits hs hn).symm) ?_
    refine W_brT ?_
    refine W_eq (alike_w hP hB fun s n _ _ => (hits_mem hmem s n).symm) ?_
    refine W_brT ?_
    refine W_eq awake_w ?_
    exact W_ret rfl
end Go.Proofs.YtlodiacgkcnkmaaDoor
