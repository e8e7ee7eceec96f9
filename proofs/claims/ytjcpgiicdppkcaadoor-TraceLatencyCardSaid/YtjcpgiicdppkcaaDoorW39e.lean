import Derived.Test.YtjcpgiicdppkcaaDoorW39d
namespace Go.Proofs.YtjcpgiicdppkcaaDoor
open Go Go.Eng
set_option linter.unusedSimpArgs false
set_option linter.unusedVariables false

/-! LAYER 39: TraceLatency in plain terms -/

theorem mkO_good {n t : Int} (h0 : 0 ≤ n) (h1 : n < 1048576) (ht : 0 ≤ t) (ht2 : t ≤ 1000) : oneE (mkO n t) = 0 := by
  have d3 := tdv h0 (c := 3) (by omega)
  have d12 := tdv h0 (c := 12) (by omega)
  have d180 := tdv h0 (c := 180) (by omega)
  have d360 := tdv h0 (c := 360) (by omega)
  have e3 := tmd d3.1 (c := 4) (by omega)
  have e12 := tmd d12.1 (c := 15) (by omega)
  have e180 := tmd d180.1 (c := 2) (by omega)
  have e360 := tmd d360.1 (c := 3) (by omega)
  unfold mkO
  dsimp only
  obtain ⟨nd, hnd⟩ : ∃ nd, 1 + (n.tdiv 3).tmod 4 = nd := ⟨_, rfl⟩
  obtain ⟨kd, hkd⟩ : ∃ kd, 1 + (n.tdiv 12).tmod 15 = kd := ⟨_, rfl⟩
  rw [hnd, hkd]
  have hne : 1 + nd.tmod 4 ≠ nd ∧ 1 ≤ 1 + nd.tmod 4 ∧ 1 + nd.tmod 4 ≤ 4 := by
    rw [Int.tmod_eq_emod_of_nonneg (by omega)]; omega
  generalize 1 + nd.tmod 4 = od at hne
  generalize (n.tdiv 360).tmod 3 = sd at e360
  rw [oneE, if_neg (by dsimp only; omega), if_pos]
  have hpr : (n.tdiv 180).tmod 2 * od = 0 ∨ (n.tdiv 180).tmod 2 * od = od := by
    rcases (show (n.tdiv 180).tmod 2 = 0 ∨ (n.tdiv 180).tmod 2 = 1 by omega) with q | q <;> rw [q] <;> omega
  generalize (n.tdiv 180).tmod 2 * od = pd at hpr
  generalize (n.tdiv 180).tmod 2 = bd at e180
  unfold good
  dsimp only
  cases hu : usesID kd
  · simp only [usesID, decide_eq_false_iff_not] at hu
    simp only [Bool.false_eq_true, if_false, and_true, and_self]
    split
    · omega
    · split
      · omega
      · simp only [and_true]; omega
  · simp only [usesID, decide_eq_true_eq] at hu
    simp only [if_true]
    split
    · omega
    · split
      · omega
      · simp only [and_true]; omega

structure Inv (st : List O × Int) : Prop where
  one : ∀ x ∈ st.1, oneE x = 0
  asc : st.1.Pairwise (fun x y => x.t ≤ y.t)
  last : ∀ x ∈ st.1, x.t ≤ st.2 ∧ 0 ≤ x.t
  pos : 0 ≤ st.2

theorem Inv.step {st : List O × Int} (h : Inv st) (hb : st.2 ≤ 900) (x : Int) : Inv (madeF st x) := by
  have hr := nOf_range x
  have r3 := tmd hr.1 (c := 3) (by omega)
  have hp := h.pos
  have htt : (mkO (nOf x) (st.2 + (nOf x).tmod 3)).t = st.2 + (nOf x).tmod 3 := rfl
  refine ⟨fun y hy => ?_, ?_, fun y hy => ?_, by simp only [madeF]; omega⟩
  · simp only [madeF, List.mem_append, List.mem_singleton] at hy
    rcases hy with hy | rfl
    · exact h.one y hy
    · exact mkO_good hr.1 hr.2 (by omega) (by omega)
  · simp only [madeF]
    refine List.pairwise_append.2 ⟨h.asc, by simp, fun y hy z hz => ?_⟩
    simp only [List.mem_singleton] at hz
    subst hz
    rw [htt]
    have := h.last y hy
    omega
  · simp only [madeF, List.mem_append, List.mem_singleton] at hy ⊢
    rcases hy with hy | rfl
    · have := h.last y hy
      omega
    · rw [htt]; omega

theorem made_inv (l : List Int) : ∀ i, i ≤ l.length → i ≤ 30 → Inv (made (l.take i))
  | 0, _, _ => ⟨by simp [made], by simp [made], by simp [made], by simp [made]⟩
  | i + 1, h, h2 => by
    rw [made_take (by omega)]
    obtain ⟨_, _, h3⟩ := made_len l i (by omega)
    exact (made_inv l i (by omega) (by omega)).step (by omega) _

theorem chkO_zero : ∀ (l : List O) (p : Option O) (i : Nat), (∀ x ∈ l, oneE x = 0) → (∀ y, p = some y → ∀ x ∈ l, y.t ≤ x.t) → l.Pairwise (fun x y => x.t ≤ y.t) → (chkO p i l).1 = 0
  | [], _, _, _, _, _ => rfl
  | x :: l, p, i, h1, h2, h3 => by
    rw [chkO, if_neg (by simp [h1 x (by simp)]), if_neg ?_]
    · exact chkO_zero l (some x) (i + 1) (fun y hy => h1 y (by simp [hy])) (fun y hy z hz => by cases hy; exact (List.pairwise_cons.1 h3).1 z hz) (List.pairwise_cons.1 h3).2
    · cases p with
      | none => simp [lateO]
      | some y =>
        have := h2 y rfl x (by simp)
        simp only [lateO, decide_eq_true_eq]; omega

theorem chk_zero {l : List O} (h1 : ∀ x ∈ l, oneE x = 0) (h3 : l.Pairwise (fun x y => x.t ≤ y.t)) (hl : l.length ≤ 5000) : (chk l).1 = 0 := by
  rw [chk, if_neg (by omega)]
  exact chkO_zero l none 0 h1 (fun _ h => by cases h) h3

/-- What TraceLatency asks of one bundle. -/
theorem lat_law {l : List O} (h1 : ∀ x ∈ l, oneE x = 0) (h3 : l.Pairwise (fun x y => x.t ≤ y.t)) (hl : l.length ≤ 5000) {y : I} (hy : idOK y = true) :
    (ofE l y).2 = 0 ∧ latE (ofE l y).1 y = latE l y ∧ ((latE l y).2 = 0 ∧ 0 ≤ (latE l y).1 ∨ (latE l y).2 = 8) := by
  have e1 : ofE l y = (l.filter fun x => decide (x.id = y), 0) := by rw [ofE, if_neg (by simp [chk_zero h1 h3 hl]), if_neg (by simp [hy])]
  have hm := fun x (hx : x ∈ l.filter fun x => decide (x.id = y)) => (List.mem_filter.1 hx).1
  have hp := h3.filter (fun x => decide (x.id = y))
  have hll : (l.filter fun x => decide (x.id = y)).length ≤ 5000 := Nat.le_trans (List.length_filter_le _ _) hl
  have e2 : ofE (l.filter fun x => decide (x.id = y)) y = (l.filter fun x => decide (x.id = y), 0) := by
    rw [ofE, if_neg (by simp [chk_zero (fun x hx => h1 x (hm x hx)) hp hll]), if_neg (by simp [hy])]
    simp [List.filter_filter]
  refine ⟨by rw [e1], by rw [e1]; dsimp only; rw [latE, e2, latE, e1], ?_⟩
  rw [latE, e1]
  dsimp only
  rw [if_neg (by simp)]
  have hq := hp.filter isEnd
  generalize List.filter isEnd (l.filter fun x => decide (x.id = y)) = m at hq
  match m, hq with
  | [], _ => exact .inr rfl
  | [_], _ => exact .inr rfl
  | [p, q], hq =>
    rw [latM]
    split
    · have := (List.pairwise_cons.1 hq).1 q (by simp)
      exact .inl ⟨rfl, by dsimp only; omega⟩
    · exact .inr rfl
  | _ :: _ :: _ :: _, _ => exact .inr rfl
end Go.Proofs.YtjcpgiicdppkcaaDoor
