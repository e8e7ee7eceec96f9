import Derived.Test.YtjcpgiicdppkcaaDoorXL
import Derived.Test.YtjcpgiicdppkcaaDoorXGParts
set_option linter.unusedSimpArgs false
set_option linter.unusedVariables false
namespace Go.Proofs.YtjcpgiicdppkcaaDoor
open Go.X Go.Eng
structure Good (o : Outc) : Prop where
  t : 0 ≤ o.Tick ∧ o.Tick ≤ 1000
  n : 1 ≤ o.Node ∧ o.Node ≤ 4
  k : 1 ≤ o.Kind ∧ o.Kind ≤ 15
  id : if o.Kind ≤ 10 ∧ o.Kind ≠ 5 then 1 ≤ o.ID.Node ∧ o.ID.Node ≤ 2 ∧ 0 ≤ o.ID.Seq ∧ o.ID.Seq ≤ 2 ∧ o.ID.Off = 0 else o.ID.Node = 0 ∧ o.ID.Seq = 0 ∧ o.ID.Off = 0
  ot : if o.Kind = 6 ∨ o.Kind = 7 ∨ o.Kind = 10 ∨ o.Kind = 11 ∨ o.Kind = 13 then 1 ≤ o.Other ∧ o.Other ≤ 4 ∧ o.Other ≠ o.Node
    else if o.Kind = 12 then o.Other = 0 ∨ (1 ≤ o.Other ∧ o.Other ≤ 4 ∧ o.Other ≠ o.Node) else o.Other = 0
theorem mod_w (x : Int) : W (packhorsekit_Mod (x, 1048576)) fun r => 0 ≤ r ∧ r < 1048576 := by
  unfold packhorsekit_Mod
  dsimp only
  refine W_brd (fun h => absurd h (by decide)) (fun _ => ?_)
  refine W_remt (by decide) fun c hc => ?_
  have h1 := Int.tmod_lt_of_pos x (b := 1048576) (by decide)
  have h2 := Int.lt_tmod_of_pos x (b := 1048576) (by decide)
  rw [← hc] at h1 h2
  (first | refine W_op fun _ _ => ?_ | refine W_if ?_ ?_ <;> intro _ <;> try (exfalso; omega))
  · (first | refine W_op fun _ _ => ?_ | refine W_if ?_ ?_ <;> intro _ <;> try (exfalso; omega))
    exact W_ret (by omega)
  · exact W_ret (by omega)
theorem usesID_w (k : Int) (h1 : 1 ≤ k) (h2 : k ≤ 15) : packhorseref39_UsesID k = some (decide (k ≤ 10 ∧ k ≠ 5)) := by
  have h : k.toNat ≤ 15 := by omega
  have e : k = (k.toNat : Int) := by omega
  generalize k.toNat = n at h e
  subst e
  revert n
  decide +revert
structure Inv (s : List Outc × Int × Int) : Prop where
  len : (s.1.length : Int) = s.2.2 ∧ s.2.2 ≤ 30
  good : ∀ o ∈ s.1, Good o
  asc : s.1.Pairwise (fun x y => x.Tick ≤ y.Tick)
  last : ∀ o ∈ s.1, o.Tick ≤ s.2.1
  tick : 0 ≤ s.2.1 ∧ s.2.1 ≤ 2 * s.2.2
theorem Inv.app {l : List Outc} {t i t' i' : Int} {o : Outc} (h : Inv (l, t, i)) (hi : i < 30) (ho : Good o) (ht : o.Tick = t') (h1 : t ≤ t') (h2 : t' ≤ t + 2) (hi' : i' = i + 1) : Inv (l ++ [o], t', i') := by
  obtain ⟨a, b, c, d, e⟩ := h
  simp only at a b c d e
  refine ⟨by simp; omega, fun x hx => ?_, ?_, fun x hx => ?_, by simp only; omega⟩
  · simp only [List.mem_append, List.mem_singleton] at hx
    rcases hx with hx | rfl
    · exact b x hx
    · exact ho
  · refine List.pairwise_append.2 ⟨c, by simp, fun y hy z hz => ?_⟩
    simp only [List.mem_singleton] at hz
    subst hz
    have := d y hy
    omega
  · simp only [List.mem_append, List.mem_singleton] at hx
    rcases hx with hx | rfl
    · have := d x hx
      simp only; omega
    · dsimp only; omega
set_option maxHeartbeats 4000000 in
theorem made_w (nums : List Int) : W (packhorselaw39_Made nums) fun l => l.length ≤ 30 ∧ (∀ o ∈ l, Good o) ∧ l.Pairwise (fun x y => x.Tick ≤ y.Tick) := by
  unfold packhorselaw39_Made
  refine W_loop (fun s => Inv s) (fun s => 30 - s.2.2.toNat) ?_ ⟨by simp, by simp, by simp, by simp, by simp⟩
  rintro ⟨l, tick, i⟩ hI
  have hlen := hI.len
  have htk := hI.tick
  simp only at hlen htk
  have fin : W (some l) fun l => l.length ≤ 30 ∧ (∀ o ∈ l, Good o) ∧ l.Pairwise (fun x y => x.Tick ≤ y.Tick) := W_ret ⟨by omega, hI.good, hI.asc⟩
  dsimp only
  (first | refine W_op fun _ _ => ?_ | refine W_if ?_ ?_ <;> intro _ <;> try (exfalso; omega))
  · (first | refine W_op fun _ _ => ?_ | refine W_if ?_ ?_ <;> intro _ <;> try (exfalso; omega))
    · refine W_idx (by omega) (by omega) fun x hx => ?_
      refine W_call (mod_w x) fun n hn => ?_
      clear hx
      iterate 8 (first | refine W_op fun _ _ => ?_ | refine W_if ?_ ?_ <;> intro _ <;> try (exfalso; omega))
      rename_i a1 e1 a2 e2 a3 e3 a4 e4 a5 e5 a6 e6 a7 e7 a8 e8
      have hk : 1 ≤ a8 ∧ a8 ≤ 15 := by omega
      have hnd : 1 ≤ a5 ∧ a5 ≤ 4 := by omega
      have htt : tick ≤ a2 ∧ a2 ≤ tick + 2 := by omega
      clear e1 e2 e3 e4 e5 e6 e7 e8
      refine W_eq (usesID_w a8 hk.1 hk.2) ?_
      refine W_brd (fun hu => ?_) (fun hu => ?_)
      · iterate 5 (first | refine W_op fun _ _ => ?_ | refine W_if ?_ ?_ <;> intro _ <;> try (exfalso; omega))
        rename_i b1 f1 b2 f2 b3 f3 b4 f4 b5 f5
        have hw : Go.IntKind.wrap .u64 b5 = b5 := InR_u64 b5 (by omega)
        rw [hw]
        have hid : 1 ≤ b3 ∧ b3 ≤ 2 ∧ 0 ≤ b5 ∧ b5 ≤ 2 := by omega
        clear f1 f2 f3 f4 f5
        (first | refine W_op fun _ _ => ?_ | refine W_if ?_ ?_ <;> intro _ <;> try (exfalso; omega))
        · iterate 2 (first | refine W_op fun _ _ => ?_ | refine W_if ?_ ?_ <;> intro _ <;> try (exfalso; omega))
          refine W_app (by simp only [List.length_cons, List.length_nil]; omega) ?_
          (first | refine W_op fun _ _ => ?_ | refine W_if ?_ ?_ <;> intro _ <;> try (exfalso; omega))
          refine W_next ⟨Inv.app hI (by omega) ⟨?_, ?_, ?_, ?_, ?_⟩ rfl (by omega) (by omega) (by omega), ?_⟩
          · dsimp only; omega
          · dsimp only; omega
          · dsimp only; omega
          · dsimp only; split <;> omega
          · dsimp only; (repeat' split) <;> omega
          · dsimp only; omega
        (first | refine W_op fun _ _ => ?_ | refine W_if ?_ ?_ <;> intro _ <;> try (exfalso; omega))
        · iterate 2 (first | refine W_op fun _ _ => ?_ | refine W_if ?_ ?_ <;> intro _ <;> try (exfalso; omega))
          refine W_app (by simp only [List.length_cons, List.length_nil]; omega) ?_
          (first | refine W_op fun _ _ => ?_ | refine W_if ?_ ?_ <;> intro _ <;> try (exfalso; omega))
          refine W_next ⟨Inv.app hI (by omega) ⟨?_, ?_, ?_, ?_, ?_⟩ rfl (by omega) (by omega) (by omega), ?_⟩
          · dsimp only; omega
          · dsimp only; omega
          · dsimp only; omega
          · dsimp only; split <;> omega
          · dsimp only; (repeat' split) <;> omega
          · dsimp only; omega
        (first | refine W_op fun _ _ => ?_ | refine W_if ?_ ?_ <;> intro _ <;> try (exfalso; omega))
        · iterate 2 (first | refine W_op fun _ _ => ?_ | refine W_if ?_ ?_ <;> intro _ <;> try (exfalso; omega))
          refine W_app (by simp only [List.length_cons, List.length_nil]; omega) ?_
          (first | refine W_op fun _ _ => ?_ | refine W_if ?_ ?_ <;> intro _ <;> try (exfalso; omega))
          refine W_next ⟨Inv.app hI (by omega) ⟨?_, ?_, ?_, ?_, ?_⟩ rfl (by omega) (by omega) (by omega), ?_⟩
          · dsimp only; omega
          · dsimp only; omega
          · dsimp only; omega
          · dsimp only; split <;> omega
          · dsimp only; (repeat' split) <;> omega
          · dsimp only; omega
        iterate 3 (first | refine W_op fun _ _ => ?_ | refine W_if ?_ ?_ <;> intro _ <;> try (exfalso; omega))
        refine W_app (by simp only [List.length_cons, List.length_nil]; omega) ?_
        (first | refine W_op fun _ _ => ?_ | refine W_if ?_ ?_ <;> intro _ <;> try (exfalso; omega))
        refine W_next ⟨Inv.app hI (by omega) ⟨?_, ?_, ?_, ?_, ?_⟩ rfl (by omega) (by omega) (by omega), ?_⟩
        · dsimp only; omega
        · dsimp only; omega
        · dsimp only; omega
        · dsimp only; split <;> omega
        · dsimp only; (repeat' split) <;> omega
        · dsimp only; omega
      · iterate 4 (first | refine W_op fun _ _ => ?_ | refine W_if ?_ ?_ <;> intro _ <;> try (exfalso; omega))
        · iterate 2 (first | refine W_op fun _ _ => ?_ | refine W_if ?_ ?_ <;> intro _ <;> try (exfalso; omega))
          refine W_app (by simp only [List.length_cons, List.length_nil]; omega) ?_
          (first | refine W_op fun _ _ => ?_ | refine W_if ?_ ?_ <;> intro _ <;> try (exfalso; omega))
          refine W_next ⟨Inv.app hI (by omega) ⟨?_, ?_, ?_, ?_, ?_⟩ rfl (by omega) (by omega) (by omega), ?_⟩
          · dsimp only; omega
          · dsimp only; omega
          · dsimp only; omega
          · dsimp only; split <;> omega
          · dsimp only; (repeat' split) <;> omega
          · dsimp only; omega
        (first | refine W_op fun _ _ => ?_ | refine W_if ?_ ?_ <;> intro _ <;> try (exfalso; omega))
        · iterate 2 (first | refine W_op fun _ _ => ?_ | refine W_if ?_ ?_ <;> intro _ <;> try (exfalso; omega))
          refine W_app (by simp only [List.length_cons, List.length_nil]; omega) ?_
          (first | refine W_op fun _ _ => ?_ | refine W_if ?_ ?_ <;> intro _ <;> try (exfalso; omega))
          refine W_next ⟨Inv.app hI (by omega) ⟨?_, ?_, ?_, ?_, ?_⟩ rfl (by omega) (by omega) (by omega), ?_⟩
          · dsimp only; omega
          · dsimp only; omega
          · dsimp only; omega
          · dsimp only; split <;> omega
          · dsimp only; (repeat' split) <;> omega
          · dsimp only; omega
        (first | refine W_op fun _ _ => ?_ | refine W_if ?_ ?_ <;> intro _ <;> try (exfalso; omega))
        · iterate 4 (first | refine W_op fun _ _ => ?_ | refine W_if ?_ ?_ <;> intro _ <;> try (exfalso; omega))
          rename_i c1 g1 c2 g2 c3 g3 c4 g4
          have hc : 0 ≤ c2 ∧ c2 ≤ 1 := by omega
          have hc4 : 1 ≤ c4 ∧ c4 ≤ 4 ∧ c4 ≠ a5 := by omega
          clear g1 g2 g3 g4
          have hm : c2 * c4 = 0 ∨ c2 * c4 = c4 := by
            rcases (show c2 = 0 ∨ c2 = 1 by omega) with rfl | rfl
            · left; simp
            · right; simp
          refine W_mul (by omega) (by omega) ?_
          intro _ _
          refine W_app (by simp only [List.length_cons, List.length_nil]; omega) ?_
          (first | refine W_op fun _ _ => ?_ | refine W_if ?_ ?_ <;> intro _ <;> try (exfalso; omega))
          refine W_next ⟨Inv.app hI (by omega) ⟨?_, ?_, ?_, ?_, ?_⟩ rfl (by omega) (by omega) (by omega), ?_⟩
          · dsimp only; omega
          · dsimp only; omega
          · dsimp only; omega
          · dsimp only; split <;> omega
          · dsimp only; (repeat' split) <;> omega
          · dsimp only; omega
        refine W_app (by simp only [List.length_cons, List.length_nil]; omega) ?_
        (first | refine W_op fun _ _ => ?_ | refine W_if ?_ ?_ <;> intro _ <;> try (exfalso; omega))
        refine W_next ⟨Inv.app hI (by omega) ⟨?_, ?_, ?_, ?_, ?_⟩ rfl (by omega) (by omega) (by omega), ?_⟩
        · dsimp only; omega
        · dsimp only; omega
        · dsimp only; omega
        · dsimp only; split <;> omega
        · dsimp only; (repeat' split) <;> omega
        · dsimp only; omega
    · exact W_done fin
  · exact W_done fin
end Go.Proofs.YtjcpgiicdppkcaaDoor
namespace Go.Proofs.YtjcpgiicdppkcaaDoor
open Go.X Go.Eng
def flags (k : Nat) : Int := (if k ≤ 10 ∧ k ≠ 5 then 1 else 0) + (if k = 6 ∨ k = 7 ∨ k = 10 ∨ k = 11 ∨ k = 12 ∨ k = 13 then 2 else 0) + (if k = 12 then 4 else 0)
set_option maxRecDepth 100000 in
theorem face_all : ∀ k ∈ [1, 2, 3, 4, 5, 6, 7, 8, 9, 10, 11, 12, 13, 14, 15], tbl1 .i64 0 (0 + k * 2 + 1) = some (flags k) := by
  intro k hk
  simp only [List.mem_cons, List.not_mem_nil, or_false] at hk
  rcases hk with rfl | rfl | rfl | rfl | rfl | rfl | rfl | rfl | rfl | rfl | rfl | rfl | rfl | rfl | rfl <;> kernel_rfl
theorem face_w {k : Int} (h1 : 1 ≤ k) (h2 : k ≤ 15) : tbl1 .i64 0 (0 + k.toNat * 2 + 1) = some (flags k.toNat) := by
  refine face_all k.toNat ?_
  simp only [List.mem_cons, List.not_mem_nil, or_false]
  omega
theorem bits_all : ∀ k ∈ [1, 2, 3, 4, 5, 6, 7, 8, 9, 10, 11, 12, 13, 14, 15], (bitI .and .i64 (flags k) 1 != (0 : Int)) = decide (k ≤ 10 ∧ k ≠ 5) ∧ (bitI .and .i64 (flags k) 2 != (0 : Int)) = decide (k = 6 ∨ k = 7 ∨ k = 10 ∨ k = 11 ∨ k = 12 ∨ k = 13) ∧ (bitI .and .i64 (flags k) 4 != (0 : Int)) = decide (k = 12) := by
  decide +kernel
theorem within_w {l : List W3} (h : ∀ x ∈ l, ¬x.a < x.b ∧ ¬x.c < x.a) (hl : l.length ≤ 100) : bundle_within l = some true := by
  refine W.eq ?_
  unfold bundle_within
  refine W_loop (fun i : Int => 0 ≤ i ∧ i ≤ (l.length : Int)) (fun i => l.length - i.toNat) ?_ (by omega)
  intro i hi
  (first | refine W_op fun _ _ => ?_ | refine W_if ?_ ?_ <;> intro _ <;> try (exfalso; omega))
  · refine W_idx (by omega) (by omega) fun x hx => ?_
    have := h x (List.mem_of_getElem? hx)
    iterate 3 (first | refine W_op fun _ _ => ?_ | refine W_if ?_ ?_ <;> intro _ <;> try (exfalso; omega))
    exact W_next (by dsimp only; omega)
  · exact W_done (W_ret rfl)
theorem checkID_w {d : ID} (h1 : 1 ≤ d.Node ∧ d.Node ≤ 16) (h2 : 0 ≤ d.Off ∧ d.Off ≤ 19999) (h3 : d.Seq ≤ 1099511627776) : bundle_CheckID d = some 0 := by
  refine W.eq ?_
  unfold bundle_CheckID
  refine W_eq (within_w (by simp; omega) (by simp)) ?_
  refine W_brnot ?_
  refine W_brT ?_
  (first | refine W_op fun _ _ => ?_ | refine W_if ?_ ?_ <;> intro _ <;> try (exfalso; omega))
  exact W_ret rfl
theorem inB_of {i : Int} {n : Nat} (h0 : 0 ≤ i) (h1 : i < n) : inB i n = true := by unfold inB; simp; omega
theorem one_w {o : Outc} (h : Good o) : trace_one o = some 0 := by
  refine W.eq ?_
  unfold trace_one
  have ht := h.t
  have hn := h.n
  have hk := h.k
  have hid := h.id
  have hot : (o.Other = 0 ∧ o.Kind ≠ 6 ∧ o.Kind ≠ 7 ∧ o.Kind ≠ 10 ∧ o.Kind ≠ 11 ∧ o.Kind ≠ 13) ∨ ((o.Kind = 6 ∨ o.Kind = 7 ∨ o.Kind = 10 ∨ o.Kind = 11 ∨ o.Kind = 12 ∨ o.Kind = 13) ∧ 1 ≤ o.Other ∧ o.Other ≤ 4 ∧ o.Other ≠ o.Node) := by
    have := h.ot
    split at this
    · omega
    · split at this <;> omega
  iterate 2 (first | refine W_op fun _ _ => ?_ | refine W_if ?_ ?_ <;> intro _ <;> try (exfalso; omega))
  refine W_brin (by omega) (by omega) ?_
  refine W_eq (face_w hk.1 hk.2) ?_
  obtain ⟨b1, b2, b3⟩ := bits_all o.Kind.toNat (by simp only [List.mem_cons, List.not_mem_nil, or_false]; omega)
  rw [b1, b2, b3]
  clear b1 b2 b3 h
  refine W_brd (fun hu => ?_) (fun hu => ?_)
  · rw [if_pos (by omega)] at hid
    refine W_eq (checkID_w (by omega) (by omega) (by omega)) ?_
    refine W_brd (fun hp => ?_) (fun hp => ?_)
    · (repeat' (first | (refine W_brnot ?_) | (first | refine W_op fun _ _ => ?_ | refine W_if ?_ ?_ <;> intro _ <;> try (exfalso; omega)))) <;> exact W_ret rfl
    · (repeat' (first | (refine W_brnot ?_) | (first | refine W_op fun _ _ => ?_ | refine W_if ?_ ?_ <;> intro _ <;> try (exfalso; omega)))) <;> exact W_ret rfl
  · rw [if_neg (by omega)] at hid
    have e : ((o.ID.Node == (0 : Int)) && ((o.ID.Seq == (0 : Int)) && (o.ID.Off == (0 : Int)))) = true := by simp [hid]
    rw [e]
    refine W_brd (fun hp => ?_) (fun hp => ?_)
    · (repeat' (first | (refine W_brnot ?_) | (refine W_brT ?_) | (first | refine W_op fun _ _ => ?_ | refine W_if ?_ ?_ <;> intro _ <;> try (exfalso; omega)))) <;> exact W_ret rfl
    · (repeat' (first | (refine W_brnot ?_) | (refine W_brT ?_) | (first | refine W_op fun _ _ => ?_ | refine W_if ?_ ?_ <;> intro _ <;> try (exfalso; omega)))) <;> exact W_ret rfl
theorem check_w {l : List Outc} (h1 : ∀ o ∈ l, Good o) (h2 : l.Pairwise (fun x y => x.Tick ≤ y.Tick)) (h3 : l.length ≤ 30) : trace_Check l = some (0, 0) := by
  refine W.eq ?_
  unfold trace_Check
  (first | refine W_op fun _ _ => ?_ | refine W_if ?_ ?_ <;> intro _ <;> try (exfalso; omega))
  refine W_loop (fun i : Int => 0 ≤ i ∧ i ≤ (l.length : Int)) (fun i => l.length - i.toNat) ?_ (by omega)
  intro i hi
  (first | refine W_op fun _ _ => ?_ | refine W_if ?_ ?_ <;> intro _ <;> try (exfalso; omega))
  · refine W_idx (by omega) (by omega) fun x hx => ?_
    refine W_eq (one_w (h1 x (List.mem_of_getElem? hx))) ?_
    refine W_brne (fun h => absurd rfl h) fun _ => ?_
    (first | refine W_op fun _ _ => ?_ | refine W_if ?_ ?_ <;> intro _ <;> try (exfalso; omega))
    · (first | refine W_op fun _ _ => ?_ | refine W_if ?_ ?_ <;> intro _ <;> try (exfalso; omega))
      rename_i j hj
      refine W_idx (by omega) (by omega) fun y hy => ?_
      have : y.Tick ≤ x.Tick := by
        obtain ⟨a1, a2⟩ := List.getElem?_eq_some_iff.1 hx
        obtain ⟨b1, b2⟩ := List.getElem?_eq_some_iff.1 hy
        have := List.pairwise_iff_getElem.1 h2 j.toNat i.toNat b1 a1 (by omega)
        rwa [a2, b2] at this
      iterate 2 (first | refine W_op fun _ _ => ?_ | refine W_if ?_ ?_ <;> intro _ <;> try (exfalso; omega))
      exact W_next (by dsimp only; omega)
    · (first | refine W_op fun _ _ => ?_ | refine W_if ?_ ?_ <;> intro _ <;> try (exfalso; omega))
      exact W_next (by dsimp only; omega)
  · exact W_done (W_ret rfl)
theorem valid_w {l : List Outc} (h1 : ∀ o ∈ l, Good o) (h2 : l.Pairwise (fun x y => x.Tick ≤ y.Tick)) (h3 : l.length ≤ 30) : trace_valid l = some 0 := by
  unfold trace_valid
  rw [check_w h1 h2 h3]; rfl
theorem sum_set : ∀ {l : List Int} {i : Nat} {x : Int}, i < l.length → (l.set i x).sum = l.sum - l.getD i 0 + x
  | [], i, x, h => by simp at h
  | a :: l, 0, x, h => by simp; omega
  | a :: l, i + 1, x, h => by
    have := sum_set (l := l) (i := i) (x := x) (by simpa using h)
    simp only [List.set_cons_succ, List.sum_cons, List.getD_cons_succ, this]; omega
theorem count_w {l : List Outc} (h1 : ∀ o ∈ l, Good o) (h2 : l.Pairwise (fun x y => x.Tick ≤ y.Tick)) (h3 : l.length ≤ 30) :
    W (trace_Count l) fun r => r.2 = 0 ∧ r.1.length = 15 ∧ r.1.sum = l.length ∧ ∀ x ∈ r.1, 0 ≤ x ∧ x ≤ 30 := by
  unfold trace_Count
  refine W_eq (valid_w h1 h2 h3) ?_
  refine W_brne (fun h => absurd rfl h) fun _ => ?_
  refine W_eq (a := List.replicate 15 0) (by kernel_rfl) ?_
  refine W_loop (fun s => 0 ≤ s.2 ∧ s.2 ≤ (l.length : Int) ∧ s.1.length = 15 ∧ s.1.sum = s.2 ∧ ∀ x ∈ s.1, 0 ≤ x ∧ x ≤ s.2) (fun s => l.length - s.2.toNat) ?_ ⟨by simp, by simp, by simp, by simp, fun x hx => ?_⟩
  · rintro ⟨out, i⟩ ⟨i1, i2, i3, i4, i5⟩
    dsimp only at i1 i2 i3 i4 i5 ⊢
    (first | refine W_op fun _ _ => ?_ | refine W_if ?_ ?_ <;> intro _ <;> try (exfalso; omega))
    · refine W_idx (by omega) (by omega) fun o ho => ?_
      have hk := (h1 o (List.mem_of_getElem? ho)).k
      (first | refine W_op fun _ _ => ?_ | refine W_if ?_ ?_ <;> intro _ <;> try (exfalso; omega))
      rename_i k hkk
      refine W_idx (by omega) (by omega) fun x hx => ?_
      have hxb := i5 x (List.mem_of_getElem? hx)
      (first | refine W_op fun _ _ => ?_ | refine W_if ?_ ?_ <;> intro _ <;> try (exfalso; omega))
      rename_i y hy
      refine W_brin (by omega) (by omega) ?_
      refine W_eq (a := x) (by unfold idx; rw [if_pos (by omega)]; exact hx) ?_
      (first | refine W_op fun _ _ => ?_ | refine W_if ?_ ?_ <;> intro _ <;> try (exfalso; omega))
      refine W_next ⟨⟨by omega, by omega, ?_, ?_, fun z hz => ?_⟩, by dsimp only; omega⟩
      · dsimp only; unfold setI; rw [List.length_set]; exact i3
      · dsimp only; unfold setI; rw [sum_set (by omega), List.getD_eq_getElem?_getD, hx, i4]; dsimp only [Option.getD]; omega
      · have hz' : z ∈ out.set k.toNat y := hz
        rcases List.mem_or_eq_of_mem_set hz' with hz | rfl
        · have := i5 z hz; dsimp only; omega
        · dsimp only; omega
    · exact W_done (W_ret ⟨rfl, i3, by dsimp only; omega, fun x hx => by have := i5 x hx; omega⟩)
  · simp at hx; subst hx; dsimp only; omega
theorem at1_w (o : Outc) (n : Int) : trace_At_1 o n = some (o.Node == n, n) := rfl
theorem filter_w {l : List Outc} (n : Int) (h3 : l.length ≤ 30) : trace_filter_f32 l n = some (l.filter (fun o => o.Node == n), n) := by
  refine W.eq ?_
  unfold trace_filter_f32
  refine W_loop (fun s => 0 ≤ s.2.1 ∧ s.2.1 ≤ (l.length : Int) ∧ s.1 = (l.take s.2.1.toNat).filter (fun o => o.Node == n) ∧ s.2.2 = n) (fun s => l.length - s.2.1.toNat) ?_ ⟨by simp, by simp, by simp, rfl⟩
  rintro ⟨out, i, m⟩ ⟨i1, i2, i3, i4⟩
  dsimp only at i1 i2 i3 i4 ⊢
  subst i4
  have hle : out.length ≤ 30 := by rw [i3]; exact Nat.le_trans (List.length_filter_le _ _) (by simp; omega)
  (first | refine W_op fun _ _ => ?_ | refine W_if ?_ ?_ <;> intro _ <;> try (exfalso; omega))
  · refine W_idx (by omega) (by omega) fun o ho => ?_
    have ht : l.take (i.toNat + 1) = l.take i.toNat ++ [o] := by rw [List.take_add_one, ho]; rfl
    refine W_eq (at1_w o m) ?_
    dsimp only
    refine W_br (fun hb => ?_) (fun hb => ?_)
    · refine W_app (by simp only [List.length_cons, List.length_nil]; omega) ?_
      (first | refine W_op fun _ _ => ?_ | refine W_if ?_ ?_ <;> intro _ <;> try (exfalso; omega))
      refine W_next ⟨⟨by dsimp only; omega, by dsimp only; omega, ?_, rfl⟩, by dsimp only; omega⟩
      dsimp only
      rename_i j hj
      rw [show j.toNat = i.toNat + 1 from by omega, ht, List.filter_append, ← i3]
      simp [hb]
    · (first | refine W_op fun _ _ => ?_ | refine W_if ?_ ?_ <;> intro _ <;> try (exfalso; omega))
      refine W_next ⟨⟨by dsimp only; omega, by dsimp only; omega, ?_, rfl⟩, by dsimp only; omega⟩
      dsimp only
      rename_i j hj
      rw [show j.toNat = i.toNat + 1 from by omega, ht, List.filter_append, ← i3]
      simp [hb]
  · refine W_done (W_ret ?_)
    rw [i3, List.take_of_length_le (by omega)]
theorem at_w {l : List Outc} {n : Int} (h1 : ∀ o ∈ l, Good o) (h2 : l.Pairwise (fun x y => x.Tick ≤ y.Tick)) (h3 : l.length ≤ 30) (hn : 1 ≤ n ∧ n ≤ 16) : trace_At (l, n) = some (l.filter (fun o => o.Node == n), 0) := by
  refine W.eq ?_
  unfold trace_At
  dsimp only
  refine W_eq (valid_w h1 h2 h3) ?_
  refine W_brne (fun h => absurd rfl h) fun _ => ?_
  (first | refine W_op fun _ _ => ?_ | refine W_if ?_ ?_ <;> intro _ <;> try (exfalso; omega))
  (first | refine W_op fun _ _ => ?_ | refine W_if ?_ ?_ <;> intro _ <;> try (exfalso; omega))
  refine W_eq (filter_w n h3) ?_
  exact W_ret rfl
end Go.Proofs.YtjcpgiicdppkcaaDoor
namespace Go.Proofs.YtjcpgiicdppkcaaDoor
open Go.X Go.Eng
theorem outc_ne {x y : Outc} : ((x.Tick == y.Tick) && ((x.Node == y.Node) && ((x.Kind == y.Kind) && ((x.ID.Node == y.ID.Node) && ((x.ID.Seq == y.ID.Seq) && ((x.ID.Off == y.ID.Off) && (x.Other == y.Other))))))) = decide (x = y) := by
  rw [Bool.eq_iff_iff]
  simp only [Bool.and_eq_true, beq_iff_eq, decide_eq_true_eq]
  constructor
  · rintro ⟨a, b, c, d, e, f, g⟩
    obtain ⟨x1, x2, x3, ⟨x4, x5, x6⟩, x7⟩ := x
    obtain ⟨y1, y2, y3, ⟨y4, y5, y6⟩, y7⟩ := y
    simp_all
  · rintro rfl
    simp
theorem drop_cons_of {α : Type} {l : List α} {i : Nat} {x : α} (h : l[i]? = some x) : l.drop i = x :: l.drop (i + 1) := by
  obtain ⟨h1, h2⟩ := List.getElem?_eq_some_iff.1 h
  rw [← h2]; exact List.drop_eq_getElem_cons h1
theorem sub_skip {α : Type} {x y : α} {l m : List α} (h : (x :: l).Sublist (y :: m)) (hne : y ≠ x) : (x :: l).Sublist m := by
  cases h with
  | cons _ h => exact h
  | cons_cons _ h => exact absurd rfl hne
theorem sub_take {α : Type} {x : α} {l m : List α} (h : (x :: l).Sublist (x :: m)) : l.Sublist m := List.cons_sublist_cons.1 h
theorem filter_lt (l : List Outc) (n : Int) : ((l.filter (fun o => decide (o.Node < n + 1))).length : Int) = (l.filter (fun o => decide (o.Node < n))).length + (l.filter (fun o => o.Node == n)).length := by
  induction l with
  | nil => rfl
  | cons o l ih =>
    simp only [List.filter_cons]
    by_cases h1 : o.Node < n
    · have h2 : o.Node < n + 1 := by omega
      have h3 : (o.Node == n) = false := by simp; omega
      simp only [h1, h2, h3, decide_true, if_true, List.length_cons, Bool.false_eq_true, if_false]
      omega
    · by_cases h2 : o.Node = n
      · have h3 : o.Node < n + 1 := by omega
        have h4 : (o.Node == n) = true := by simp; omega
        simp only [h1, h3, h4, decide_true, decide_false, if_true, List.length_cons, Bool.false_eq_true, if_false]
        omega
      · have h3 : ¬o.Node < n + 1 := by omega
        have h4 : (o.Node == n) = false := by simp; omega
        simp only [h1, h3, h4, decide_false, Bool.false_eq_true, if_false]
        exact ih
theorem sum_take {l : List Int} {i : Nat} {x : Int} (h : l[i]? = some x) : (l.take (i + 1)).sum = (l.take i).sum + x := by
  rw [List.take_add_one, h]; simp
theorem sum_bound {b : Int} : ∀ (l : List Int), (∀ x ∈ l, 0 ≤ x ∧ x ≤ b) → 0 ≤ l.sum ∧ l.sum ≤ b * l.length
  | [], _ => by simp
  | a :: l, h => by
    have h1 := sum_bound l (fun x hx => h x (by simp [hx]))
    have h2 := h a (by simp)
    simp only [List.sum_cons, List.length_cons, Int.natCast_add, Int.mul_add]
    omega
set_option maxHeartbeats 1000000 in
theorem traceParts_w (nums : List Int) : packhorselaw39_TraceParts nums = some true := by
  refine W.eq ?_
  unfold packhorselaw39_TraceParts
  refine W_eq (a := true) rfl ?_
  refine W_call (made_w nums) fun l ⟨h3, h1, h2⟩ => ?_
  refine W_call (count_w h1 h2 h3) ?_
  rintro ⟨out, e⟩ ⟨c1, c2, c3, c4⟩
  dsimp only at c1 c2 c3 c4 ⊢
  subst c1
  refine W_brne (fun h => absurd rfl h) fun _ => ?_
  refine W_brne (fun h => by omega) fun _ => ?_
  refine W_loop (fun s => 0 ≤ s.2 ∧ s.2 ≤ 15 ∧ s.1 = (out.take s.2.toNat).sum) (fun s => 15 - s.2.toNat) ?_ (by simp)
  rintro ⟨sum, i⟩ ⟨i1, i2, i3⟩
  dsimp only at i1 i2 i3 ⊢
  have hsb := sum_bound (b := 30) (out.take i.toNat) (fun x hx => c4 x (List.mem_of_mem_take hx))
  rw [← i3] at hsb
  have hll : (out.take i.toNat).length ≤ 15 := by rw [List.length_take]; omega
  (first | refine W_op fun _ _ => ?_ | refine W_if ?_ ?_ <;> intro _ <;> try (exfalso; omega))
  · refine W_idx (by omega) (by omega) fun x hx => ?_
    have := c4 x (List.mem_of_getElem? hx)
    iterate 2 (first | refine W_op fun _ _ => ?_ | refine W_if ?_ ?_ <;> intro _ <;> try (exfalso; omega))
    rename_i s hs j hj
    refine W_next ⟨⟨by dsimp only; omega, by dsimp only; omega, ?_⟩, by dsimp only; omega⟩
    dsimp only
    rw [show j.toNat = i.toNat + 1 from by omega, sum_take hx, ← i3, hs]
  refine W_done ?_
  have hsum : sum = l.length := by rw [i3, List.take_of_length_le (by omega), c3]
  clear i3 hsb hll i1 i2
  refine W_loop (fun s => 1 ≤ s.2 ∧ s.2 ≤ 17 ∧ s.1 = ((l.filter (fun o => decide (o.Node < s.2))).length : Int)) (fun s => 17 - s.2.toNat) ?_ ⟨by simp, by simp, ?_⟩
  · rintro ⟨parts, n⟩ ⟨j1, j2, j3⟩
    dsimp only at j1 j2 j3 ⊢
    have hpl := List.length_filter_le (fun o => decide (o.Node < n)) l
    (first | refine W_op fun _ _ => ?_ | refine W_if ?_ ?_ <;> intro _ <;> try (exfalso; omega))
    · refine W_eq (at_w h1 h2 h3 (by omega)) ?_
      dsimp only
      refine W_brne (fun h => absurd rfl h) fun _ => ?_
      have hfl := filter_lt l n
      have hfb := List.length_filter_le (fun o => o.Node == n) l
      have hmem : ∀ o ∈ l.filter (fun o => o.Node == n), o.Node = n := fun o ho => by simpa using (List.mem_filter.1 ho).2
      have hsub := List.filter_sublist (l := l) (p := fun o => o.Node == n)
      generalize l.filter (fun o => o.Node == n) = f at hfl hfb hmem hsub
      (first | refine W_op fun _ _ => ?_ | refine W_if ?_ ?_ <;> intro _ <;> try (exfalso; omega))
      rename_i p' hp'
      refine W_loop (fun s => 0 ≤ s.1 ∧ s.1 ≤ (l.length : Int) ∧ 0 ≤ s.2 ∧ s.2 ≤ (f.length : Int) ∧ (f.drop s.2.toNat).Sublist (l.drop s.1.toNat)) (fun s => f.length - s.2.toNat) ?_ ⟨by simp, by simp, by simp, by simp, by simpa using hsub⟩
      rintro ⟨k, i⟩ ⟨k1, k2, k3, k4, k5⟩
      dsimp only at k1 k2 k3 k4 k5 ⊢
      (first | refine W_op fun _ _ => ?_ | refine W_if ?_ ?_ <;> intro _ <;> try (exfalso; omega))
      · obtain ⟨x, hx1, hx2⟩ := idx_some (l := f) (i := i) (by omega) (by omega)
        rw [drop_cons_of hx2] at k5
        refine W_loop (fun k' => 0 ≤ k' ∧ k' ≤ (l.length : Int) ∧ (x :: f.drop (i.toNat + 1)).Sublist (l.drop k'.toNat)) (fun k' => l.length - k'.toNat) ?_ ⟨k1, k2, k5⟩
        rintro k' ⟨m1, m2, m3⟩
        have stop : k' < l.length → l[k'.toNat]? = some x → W (br (k' == (l.length : Int)) (some (Step.done (Sum.inl false))) ((idx f i).bind fun x_24 => br (x_24.Node != n) (some (Step.done (Sum.inl false))) ((addI .i64 k' (1 : Int)).bind fun x_25 => (addI .i64 i (1 : Int)).bind fun x_26 => some (.next (x_25, x_26))))) (fun (r : Step (Int × Int) (Bool ⊕ Unit)) => match r with
            | .next s' => (0 ≤ s'.1 ∧ s'.1 ≤ (l.length : Int) ∧ 0 ≤ s'.2 ∧ s'.2 ≤ (f.length : Int) ∧ (f.drop s'.2.toNat).Sublist (l.drop s'.1.toNat)) ∧ f.length - s'.2.toNat < f.length - i.toNat
            | .done r => False) := by
          intro hlt hx
          (first | refine W_op fun _ _ => ?_ | refine W_if ?_ ?_ <;> intro _ <;> try (exfalso; omega))
          refine W_eq hx1 ?_
          refine W_brne (fun h => absurd (hmem x (List.mem_of_getElem? hx2)) h) fun _ => ?_
          iterate 2 (first | refine W_op fun _ _ => ?_ | refine W_if ?_ ?_ <;> intro _ <;> try (exfalso; omega))
          rename_i a ha b hb
          refine W_next ⟨⟨by dsimp only; omega, by dsimp only; omega, by dsimp only; omega, by dsimp only; omega, ?_⟩, by dsimp only; omega⟩
          dsimp only
          rw [show a.toNat = k'.toNat + 1 from by omega, show b.toNat = i.toNat + 1 from by omega]
          rw [drop_cons_of hx] at m3
          exact sub_take m3
        (first | refine W_op fun _ _ => ?_ | refine W_if ?_ ?_ <;> intro _ <;> try (exfalso; omega))
        · refine W_idx (by omega) (by omega) fun y hy => ?_
          refine W_eq hx1 ?_
          rw [outc_ne]
          refine W_brnot ?_
          refine W_brd (fun heq => ?_) (fun hne => ?_)
          · subst heq
            refine W_done ((stop (by omega) hy).mono fun r hr => ?_)
            cases r with
            | next s => exact hr
            | done r => exact hr.elim
          · (first | refine W_op fun _ _ => ?_ | refine W_if ?_ ?_ <;> intro _ <;> try (exfalso; omega))
            rename_i a ha
            refine W_next ⟨⟨by omega, by omega, ?_⟩, by omega⟩
            rw [show a.toNat = k'.toNat + 1 from by omega]
            rw [drop_cons_of hy] at m3
            exact sub_skip m3 hne
        · have h0 : l.drop k'.toNat = [] := List.drop_of_length_le (by omega)
          rw [h0] at m3
          cases m3
      · refine W_done ?_
        simp only [Sum.elim_inr]
        (first | refine W_op fun _ _ => ?_ | refine W_if ?_ ?_ <;> intro _ <;> try (exfalso; omega))
        rename_i a ha
        refine W_next ⟨⟨by dsimp only; omega, by dsimp only; omega, ?_⟩, by dsimp only; omega⟩
        dsimp only
        rw [ha, hfl, hp', j3]
    · refine W_done ?_
      simp only [Sum.elim_inr]
      refine W_brT ?_
      (first | refine W_op fun _ _ => ?_ | refine W_if ?_ ?_ <;> intro _ <;> try (exfalso; omega))
      refine W_ret ?_
      have hn : n = 17 := by omega
      have hall : l.filter (fun o => decide (o.Node < n)) = l := List.filter_eq_self.2 fun o ho => by have := (h1 o ho).n; simp; omega
      rw [j3, hall]
      simp
  · dsimp only
    have hnil : l.filter (fun o => decide (o.Node < 1)) = [] := List.filter_eq_nil_iff.2 fun o ho => by have := (h1 o ho).n; simp; omega
    rw [hnil]; rfl
end Go.Proofs.YtjcpgiicdppkcaaDoor
