import Derived.Test.YtecpknddocikaaaGreatDoorP5b
set_option linter.unusedSimpArgs false
set_option linter.unusedVariables false
namespace Go.Proofs.YtecpknddocikaaaGreatDoor
open Go.X Go.Eng
theorem same_w {a b : List EID} (h : a = b) (hl : a.length ≤ 1000) : packhorselaw05_same (a, b) = some true := by
  subst h
  refine W.eq ?_
  unfold packhorselaw05_same
  dsimp only
  refine W_brne (fun h => absurd rfl h) fun _ => ?_
  refine W_loop (fun i => 0 ≤ i ∧ i ≤ (a.length : Int)) (fun i => a.length - i.toNat) ?_ ⟨by omega, by omega⟩
  rintro i ⟨i1, i2⟩
  refine W_if (fun h1 => ?_) (fun h1 => ?_)
  · refine W_idx i1 h1 fun x hx => ?_
    refine W_idx i1 h1 fun y hy => ?_
    rw [hx] at hy
    cases hy
    refine W_brnot ?_
    refine W_br (fun _ => ?_) (fun h => by simp at h)
    refine W_op fun j hj => ?_
    exact W_next ⟨⟨by omega, by omega⟩, by omega⟩
  · exact W_done (W_ret rfl)
def nodesL (l : List EID) (s : Int) : List Int := ((List.range 17).filter (hits l s)).map fun n : Nat => (n : Int)
theorem nodes_eq {l : List EID} (h : OKP l) {s : Int} (h0 : 0 ≤ s) (h1 : s ≤ 999) : eid_Nodes (l, s) = some (nodesL l s, 0) := by
  refine W.eq ?_
  unfold eid_Nodes
  dsimp only
  refine W_eq (pattern_ok h) ?_
  have hlen := h.len
  refine W_breq (fun _ => ?_) (fun h => absurd rfl h)
  refine W_brd (fun h => absurd h (by omega)) fun _ => ?_
  refine W_brd (fun h => absurd h (by omega)) fun _ => ?_
  refine W_brne (fun h => absurd rfl h) fun _ => ?_
  refine W_eq (matched_eq h.ok (by omega) s) ?_
  refine W_loop (fun st => (0 ≤ st.2 ∧ st.2 ≤ 17) ∧ st.1 = ((List.range st.2.toNat).filter (hits l s)).map fun n : Nat => (n : Int)) (fun st => 17 - st.2.toNat) ?_ ⟨⟨by dsimp only; omega, by dsimp only; omega⟩, rfl⟩
  rintro ⟨out, i⟩ ⟨⟨i1, i2⟩, hO⟩
  dsimp only at i1 i2 hO ⊢
  rw [lit_tab]
  have hstep : ∀ j : Int, j = i + 1 → ((List.range j.toNat).filter (hits l s)).map (fun n : Nat => (n : Int)) = out ++ (if hits l s i.toNat = true then [i] else []) := by
    intro j hj
    have : j.toNat = i.toNat + 1 := by omega
    rw [this, List.range_succ, List.filter_append, List.map_append, ← hO]
    congr 1
    rw [List.filter_cons]
    split
    · simp only [List.filter_nil, List.map_cons, List.map_nil]
      congr 1
      omega
    · rfl
  have hol : out.length ≤ 17 := by
    rw [hO, List.length_map]
    refine Nat.le_trans (List.length_filter_le _ _) ?_
    simp; omega
  refine W_if (fun h1 => ?_) (fun h1 => ?_)
  · refine W_brin i1 (by omega) ?_
    refine W_idxT i1 (by omega) ?_
    refine W_br (fun hf => ?_) (fun hf => ?_)
    · refine W_appc (by simp; omega) fun o ho => ?_
      refine W_op fun j hj => ?_
      refine W_next ⟨⟨⟨by dsimp only; omega, by dsimp only; omega⟩, ?_⟩, by dsimp only; omega⟩
      dsimp only
      rw [hstep j hj, if_pos hf, ho]
    · refine W_op fun j hj => ?_
      refine W_next ⟨⟨⟨by dsimp only; omega, by dsimp only; omega⟩, ?_⟩, by dsimp only; omega⟩
      dsimp only
      rw [hstep j hj, if_neg (by rw [hf]; decide), List.append_nil]
  · refine W_done (W_ret ?_)
    have : i.toNat = 17 := by omega
    rw [hO, this]
    rfl
theorem match_eq {l : List EID} (h : OKP l) {n s : Int} (n0 : 1 ≤ n) (n1 : n ≤ 16) (h0 : 0 ≤ s) (h1 : s ≤ 999) : eid_Match (l, n, s) = some (hits l s n.toNat, 0) := by
  refine W.eq ?_
  unfold eid_Match
  dsimp only
  refine W_eq (pattern_ok h) ?_
  have hlen := h.len
  refine W_breq (fun _ => ?_) (fun h => absurd rfl h)
  refine W_brd (fun h => absurd h (by omega)) fun _ => ?_
  refine W_brd (fun h => absurd h (by omega)) fun _ => ?_
  refine W_brd (fun h => absurd h (by omega)) fun _ => ?_
  refine W_brd (fun h => absurd h (by omega)) fun _ => ?_
  refine W_brne (fun h => absurd rfl h) fun _ => ?_
  refine W_eq (matched_eq h.ok (by omega) s) ?_
  refine W_brin (by omega) (by omega) ?_
  rw [lit_tab]
  refine W_idxT (by omega) (by omega) ?_
  exact W_ret rfl
theorem nodesL_len (l : List EID) (s : Int) : (nodesL l s).length ≤ 17 := by
  unfold nodesL
  rw [List.length_map]
  exact Nat.le_trans (List.length_filter_le _ _) (by simp)
end Go.Proofs.YtecpknddocikaaaGreatDoor
