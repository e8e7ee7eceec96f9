import Derived.Test.YtgihkmmcddhajaaPV
namespace Go.Proofs.Ytgihkmmcddhajaa
open Go.X Go.Eng
set_option linter.unusedSimpArgs false
set_option linter.unusedVariables false

/-! LAYER 22: plans made of numbers are valid -/

structure LInv (l : List Contact) (c : Contact) (a i : Int) : Prop where
  r : 0 ≤ a ∧ a ≤ i ∧ i ≤ (l.length : Int)
  lo : ∀ (j : Nat) x, j < a.toNat → l[j]? = some x → cmpC x c < 0
  hi : ∀ (j : Nat) x, a.toNat ≤ j → j < i.toNat → l[j]? = some x → ¬ cmpC x c < 0
  ap : ∀ (j : Nat) x, j < i.toNat → l[j]? = some x → apartC x c

theorem cmpC_trans {a b c : Contact} (h1 : cmpC a b < 0) (h2 : cmpC b c < 0) : cmpC a c < 0 := by
  rw [cmpC_lt] at *; omega

theorem LInv.lt {l : List Contact} {c x : Contact} {a i a' i' : Int} (h : LInv l c a i) (hv : Valid l) (hx : l[i.toNat]? = some x) (hlt : i < l.length) (hc : cmpC x c < 0) (hp : apartC x c) (h1 : a' = i + 1) (h2 : i' = i + 1) : LInv l c a' i' := by
  obtain ⟨r, lo, hi, ap⟩ := h
  obtain ⟨hxi, hxv⟩ := List.getElem?_eq_some_iff.1 hx
  refine ⟨by omega, fun j y hj hy => ?_, fun j y hj hj2 hy => by omega, fun j y hj hy => ?_⟩
  · by_cases hji : j = i.toNat
    · subst hji; rw [hx] at hy; cases hy; exact hc
    · obtain ⟨h3, h4⟩ := List.getElem?_eq_some_iff.1 hy
      have := List.pairwise_iff_getElem.1 hv.asc j i.toNat h3 hxi (by omega)
      rw [h4, hxv] at this
      exact cmpC_trans this hc
  · by_cases hji : j = i.toNat
    · subst hji; rw [hx] at hy; cases hy; exact hp
    · exact ap j y (by omega) hy

theorem LInv.ge {l : List Contact} {c x : Contact} {a i i' : Int} (h : LInv l c a i) (hx : l[i.toNat]? = some x) (hlt : i < l.length) (hc : ¬ cmpC x c < 0) (hp : apartC x c) (h2 : i' = i + 1) : LInv l c a i' := by
  obtain ⟨r, lo, hi, ap⟩ := h
  refine ⟨by omega, lo, fun j y hj hj2 hy => ?_, fun j y hj hy => ?_⟩
  · by_cases hji : j = i.toNat
    · subst hji; rw [hx] at hy; cases hy; exact hc
    · exact hi j y hj (by omega) hy
  · by_cases hji : j = i.toNat
    · subst hji; rw [hx] at hy; cases hy; exact hp
    · exact ap j y (by omega) hy

theorem LInv.valid {l : List Contact} {c : Contact} {a i : Int} (h : LInv l c a i) (hv : Valid l) (hc : OKC c) (hi : (l.length : Int) ≤ i) : Valid (l.take a.toNat ++ [c] ++ l.drop a.toNat) := by
  obtain ⟨r, lo, hh, ap⟩ := h
  have hsplit := List.take_append_drop a.toNat l
  have asc := hv.asc
  have app := hv.ap
  rw [← hsplit, List.pairwise_append] at asc app
  have low : ∀ x ∈ l.take a.toNat, cmpC x c < 0 ∧ apartC x c := by
    intro x hx
    obtain ⟨j, hj⟩ := List.mem_iff_getElem?.1 hx
    rw [List.getElem?_take] at hj
    split at hj
    · rename_i hja
      have hjl := (List.getElem?_eq_some_iff.1 hj).1
      exact ⟨lo j x hja hj, ap j x (by omega) hj⟩
    · cases hj
  have high : ∀ x ∈ l.drop a.toNat, cmpC c x < 0 ∧ apartC c x := by
    intro x hx
    obtain ⟨j, hj⟩ := List.mem_iff_getElem?.1 hx
    rw [List.getElem?_drop] at hj
    have hjl := (List.getElem?_eq_some_iff.1 hj).1
    have h1 := hh _ x (by omega) (by omega) hj
    have h2 := ap _ x (by omega) hj
    have h3 := (hv.ok x (List.mem_of_getElem? hj)).s
    have h4 := hc.s
    refine ⟨?_, fun e1 e2 => ?_⟩
    · rw [cmpC_lt] at *
      by_cases e : x.From = c.From ∧ x.To = c.To
      · have := h2 e.1 e.2
        omega
      · omega
    · have := h2 e1.symm e2.symm
      omega
  refine ⟨fun x hx => ?_, ?_, ?_⟩
  · simp only [List.mem_append, List.mem_singleton] at hx
    rcases hx with (hx | rfl) | hx
    · exact hv.ok x (List.mem_of_mem_take hx)
    · exact hc
    · exact hv.ok x (List.mem_of_mem_drop hx)
  · rw [List.pairwise_append, List.pairwise_append]
    refine ⟨⟨asc.1, by simp, fun x hx y hy => ?_⟩, asc.2.1, fun x hx y hy => ?_⟩
    · simp only [List.mem_singleton] at hy; subst hy; exact (low x hx).1
    · simp only [List.mem_append, List.mem_singleton] at hx
      rcases hx with hx | rfl
      · exact asc.2.2 x hx y hy
      · exact (high y hy).1
  · rw [List.pairwise_append, List.pairwise_append]
    refine ⟨⟨app.1, by simp, fun x hx y hy => ?_⟩, app.2.1, fun x hx y hy => ?_⟩
    · simp only [List.mem_singleton] at hy; subst hy; exact (low x hx).2
    · simp only [List.mem_append, List.mem_singleton] at hx
      rcases hx with hx | rfl
      · exact app.2.2 x hx y hy
      · exact (high y hy).2

set_option maxHeartbeats 2000000 in
theorem lay_w {l : List Contact} {c : Contact} (hv : Valid l) (hc : OKC c) (hl : l.length ≤ 100) : W (packhorsekit_lay (l, c)) fun r => Valid r ∧ r.length ≤ l.length + 1 := by
  unfold packhorsekit_lay
  refine W_loop (fun s => LInv l c s.1 s.2) (fun s => l.length - s.2.toNat) ?_ ⟨by simp, by simp, by simp, by simp⟩
  rintro ⟨a, i⟩ hI
  have hr := hI.r
  dsimp only at hr ⊢
  (first | refine W_op fun _ _ => ?_ | refine W_if ?_ ?_ <;> intro _ <;> try (exfalso; omega))
  · refine W_idx (by omega) (by omega) fun x hx => ?_
    have lt : ∀ a' i', cmpC x c < 0 → apartC x c → a' = i + 1 → i' = i + 1 → (LInv l c a' i' ∧ l.length - i'.toNat < l.length - i.toNat) := fun a' i' h1 h2 h3 h4 => ⟨hI.lt hv hx (by omega) h1 h2 h3 h4, by omega⟩
    have ge : ∀ i', ¬ cmpC x c < 0 → apartC x c → i' = i + 1 → (LInv l c a i' ∧ l.length - i'.toNat < l.length - i.toNat) := fun i' h1 h2 h3 => ⟨hI.ge hx (by omega) h1 h2 h3, by omega⟩
    repeat' (first
      | (refine W_done ?_; exact W_ret ⟨hv, by omega⟩)
      | (refine W_next (lt _ _ ?_ ?_ (by assumption) (by assumption)); (rw [cmpC_lt]; omega); (intro _ _; omega))
      | (refine W_next (ge _ ?_ ?_ (by assumption)); (rw [cmpC_lt]; omega); (intro _ _; omega))
      | (first | refine W_op fun _ _ => ?_ | refine W_if ?_ ?_ <;> intro _ <;> try (exfalso; omega)))
  · refine W_done ?_
    dsimp only [Sum.elim]
    have hs1 : slc l (0 : Int) a = some (l.take a.toNat) := by unfold slc; rw [if_pos (by omega)]; simp
    have hs2 : slc l a (l.length : Int) = some (l.drop a.toNat) := by unfold slc; rw [if_pos (by omega)]; simp
    refine W_eq hs1 ?_
    refine W_app (by simp; omega) ?_
    refine W_app (by simp; omega) ?_
    refine W_eq hs2 ?_
    refine W_app (by simp; omega) ?_
    refine W_ret ⟨?_, ?_⟩
    · have := hI.valid hv hc (by omega)
      simpa using this
    · simp; omega

theorem rate_w {k : Int} (h0 : 0 ≤ k) (h1 : k < 5) : W (idx ([(1 : Int), (10 : Int), (50 : Int), (100 : Int), (1000 : Int)] : List Int) k) fun r => 1 ≤ r ∧ r ≤ 1000 := by
  rcases (show k = 0 ∨ k = 1 ∨ k = 2 ∨ k = 3 ∨ k = 4 by omega) with rfl | rfl | rfl | rfl | rfl
  · exact ⟨1, rfl, by omega⟩
  · exact ⟨10, rfl, by omega⟩
  · exact ⟨50, rfl, by omega⟩
  · exact ⟨100, rfl, by omega⟩
  · exact ⟨1000, rfl, by omega⟩

set_option maxHeartbeats 2000000 in
theorem plan_w {nums : List Int} (hnl : nums.length ≤ 9223372036854775807) {most : Int} (hm : 0 ≤ most ∧ most ≤ 50) : W (packhorsekit_Plan (nums, most)) fun r => Valid r ∧ (r.length : Int) ≤ most := by
  unfold packhorsekit_Plan
  refine W_loop (fun s => Valid s.1 ∧ (s.1.length : Int) ≤ most ∧ 0 ≤ s.2) (fun s => nums.length - s.2.toNat) ?_ ⟨⟨by simp, by simp, by simp⟩, by simp; omega, by simp⟩
  rintro ⟨out, i⟩ ⟨h1, h2, h3⟩
  dsimp only at h1 h2 h3 ⊢
  (first | refine W_op fun _ _ => ?_ | refine W_if ?_ ?_ <;> intro _ <;> try (exfalso; omega))
  · (first | refine W_op fun _ _ => ?_ | refine W_if ?_ ?_ <;> intro _ <;> try (exfalso; omega))
    · refine W_idx (by omega) (by omega) fun x hx => ?_
      refine W_remt (by decide) fun n hn => ?_
      have b1 := Int.tmod_lt_of_pos x (b := 1048576) (by decide)
      have b2 := Int.lt_tmod_of_pos x (b := 1048576) (by decide)
      rw [← hn] at b1 b2
      clear hn hx
      have fin : ∀ {c : Contact} {Q : Step (List Contact × Int) (List Contact) → Prop}, OKC c → (∀ r j, Valid r → (r.length : Int) ≤ most → j = i + 1 → Q (.next (r, j))) → W ((packhorsekit_lay (out, c)).bind fun x_26 => (addI .i64 i (1 : Int)).bind fun x_27 => some (.next (x_26, x_27))) Q := by
        intro c Q hc hq
        refine W_call (lay_w h1 hc (by omega)) fun r hr => ?_
        refine W_op fun j hj => ?_
        exact W_next (hq r j hr.1 (by omega) hj)
      have hil : i < nums.length := by omega
      (first | refine W_op fun _ _ => ?_ | refine W_if ?_ ?_ <;> intro _ <;> try (exfalso; omega))
      · iterate 10 (first | refine W_op fun _ _ => ?_ | refine W_if ?_ ?_ <;> intro _ <;> try (exfalso; omega))
        refine W_call (rate_w (by omega) (by omega)) fun r hr => ?_
        iterate 7 (first | refine W_op fun _ _ => ?_ | refine W_if ?_ ?_ <;> intro _ <;> try (exfalso; omega))
        · iterate 2 (first | refine W_op fun _ _ => ?_ | refine W_if ?_ ?_ <;> intro _ <;> try (exfalso; omega))
          refine fin ⟨by dsimp only; omega, by dsimp only; omega, by dsimp only; omega, by dsimp only; omega, by dsimp only; omega, by dsimp only; omega⟩ fun r j q1 q2 q3 => ⟨⟨q1, q2, by omega⟩, by omega⟩
        · refine fin ⟨by dsimp only; omega, by dsimp only; omega, by dsimp only; omega, by dsimp only; omega, by dsimp only; omega, by dsimp only; omega⟩ fun r j q1 q2 q3 => ⟨⟨q1, q2, by omega⟩, by omega⟩
      · iterate 9 (first | refine W_op fun _ _ => ?_ | refine W_if ?_ ?_ <;> intro _ <;> try (exfalso; omega))
        refine W_call (rate_w (by omega) (by omega)) fun r hr => ?_
        iterate 7 (first | refine W_op fun _ _ => ?_ | refine W_if ?_ ?_ <;> intro _ <;> try (exfalso; omega))
        · iterate 2 (first | refine W_op fun _ _ => ?_ | refine W_if ?_ ?_ <;> intro _ <;> try (exfalso; omega))
          refine fin ⟨by dsimp only; omega, by dsimp only; omega, by dsimp only; omega, by dsimp only; omega, by dsimp only; omega, by dsimp only; omega⟩ fun r j q1 q2 q3 => ⟨⟨q1, q2, by omega⟩, by omega⟩
        · refine fin ⟨by dsimp only; omega, by dsimp only; omega, by dsimp only; omega, by dsimp only; omega, by dsimp only; omega, by dsimp only; omega⟩ fun r j q1 q2 q3 => ⟨⟨q1, q2, by omega⟩, by omega⟩
    · exact W_done (W_ret ⟨h1, by omega⟩)
  · exact W_done (W_ret ⟨h1, by omega⟩)
end Go.Proofs.Ytgihkmmcddhajaa
