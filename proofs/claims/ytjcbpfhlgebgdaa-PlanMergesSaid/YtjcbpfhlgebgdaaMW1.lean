import Derived.Shelf.Spec.SlicesGrow
import Derived.Ground.Names8Prog
import Derived.Shelf.SlGeneric
import Derived.Test.YtjcbpfhlgebgdaaChecked
import Derived.Test.YtjcbpfhlgebgdaaXGCmp
import Derived.Test.YtjcbpfhlgebgdaaXL
import Derived.Test.YtjcbpfhlgebgdaaPMc
import Derived.WalkKit
import Derived.Lib.Walk
import Derived.Lib.AppendZeros
import Derived.OwnWalk
import Derived.Deep.RegionHeld3
import Derived.Deep.DrawnRows
import Derived.Sort.Grow
set_option linter.unusedSimpArgs false
set_option linter.unusedVariables false
namespace Go.Proofs
open Go.Shelf
def Try.growL_ren : Go.Shelf.Ren := ⟨fun | 4 => 35 | n => n, fun | 22 => 22 | 25 => 35 | 3 => 3 | 4 => 4 | 9 => 9 | 20 => 20 | 0 => 0 | n => n, fun | n => n⟩
theorem Try.growL : Go.Proofs.Lays8.n4 Try.prog Try.growL_ren := {
  mixed := by kernel_rfl
  f4 := ⟨Try.f35.name, by decide, Try.func35.trans (congrArg some (by kernel_rfl))⟩
  t0 := Try.underlying0
  a0 := Try.isAgg0
  z0 := Try.sizeOf0
  v0 := Try.zeroValue0
  t3 := Try.underlying3
  a3 := Try.isAgg3
  z3 := Try.sizeOf3
  v3 := Try.zeroValue3
  t4 := Try.underlying4
  a4 := Try.isAgg4
  z4 := Try.sizeOf4
  v4 := Try.zeroValue4
  t9 := Try.underlying9
  a9 := Try.isAgg9
  z9 := Try.sizeOf9
  v9 := Try.zeroValue9
  t20 := Try.underlying20
  a20 := Try.isAgg20
  z20 := Try.sizeOf20
  v20 := Try.zeroValue20
  t22 := Try.underlying22
  a22 := Try.isAgg22
  z22 := Try.sizeOf22
  v22 := Try.zeroValue22 }
end Go.Proofs
namespace Go.Seq
open Go.RowKit Go.Shelf Go.Proofs Go.X Go.Proofs.Ytjcbpfhlgebgdaa Go.Eng
def cellC (x : Contact) : List Value := [.int .i64 x.From, .int .i64 x.To, .int .i64 x.Start, .int .i64 x.End, .int .i64 x.Rate, .int .i64 x.Delay]
def rowC (l : List Contact) : List Value := l.flatMap cellC
theorem rowC_nil : rowC [] = [] := rfl
theorem rowC_append (l m : List Contact) : rowC (l ++ m) = rowC l ++ rowC m := by simp [rowC]
theorem rowC_len : ∀ l : List Contact, (rowC l).length = l.length * 6
  | [] => rfl
  | x :: l => by
    have := rowC_len l
    simp only [rowC, List.flatMap_cons, List.length_append, List.length_cons] at this ⊢
    simp only [cellC, List.length_cons, List.length_nil]
    omega
theorem rowC_get : ∀ {l : List Contact} {i : Nat} {x : Contact}, l[i]? = some x → ∀ j, j < 6 → (rowC l)[i * 6 + j]? = (cellC x)[j]?
  | [], i, x, h, _, _ => by simp at h
  | y :: l, 0, x, h, j, hj => by
    simp at h; subst h
    simp only [rowC, List.flatMap_cons]
    rw [List.getElem?_append_left (by simp [cellC]; omega)]
    simp
  | y :: l, i + 1, x, h, j, hj => by
    have := rowC_get (l := l) (i := i) (x := x) (by simpa using h) j hj
    simp only [rowC, List.flatMap_cons] at this ⊢
    rw [List.getElem?_append_right (by simp [cellC]; omega)]
    rw [← this]
    congr 1
    simp [cellC]; omega
theorem cellC_one (x : Contact) : ∀ u ∈ cellC x, u.oneCell' = true := by
  intro u hu
  simp [cellC] at hu
  rcases hu with rfl | rfl | rfl | rfl | rfl | rfl <;> rfl
theorem rowC_one (l : List Contact) : ∀ u ∈ rowC l, u.oneCell' = true := by
  intro u hu
  simp only [rowC, List.mem_flatMap] at hu
  obtain ⟨x, _, hu⟩ := hu
  exact cellC_one x u hu
theorem rowC_ne {l : List Contact} {j : Nat} {u : Value} (h : (rowC l)[j]? = some u) : l ≠ [] := by
  rintro rfl
  simp [rowC] at h
def SL (W : World) (v : Value) (l : List Contact) : Prop :=
  ∃ base cap, v = .slice base l.length cap ∧ l.length ≤ cap ∧ cap ≤ maxLen ∧ ((l = [] ∧ cap = 0) ∨ ∃ b o, base = some ⟨b, o, none⟩ ∧ (l ≠ [] → b < W.heap.size) ∧ ∀ j u, (rowC l)[j]? = some u → W.cell? ⟨b, o + j, none⟩ = some u)
theorem SL.below {W W' : World} {v : Value} {l : List Contact} (h : SL W v l) {N : Nat} (hN : W.heap.size ≤ N) (hb : Below N W W') : SL W' v l := by
  obtain ⟨base, cap, h1, h2, h3, h4⟩ := h
  refine ⟨base, cap, h1, h2, h3, h4.imp id ?_⟩
  rintro ⟨b, o, q1, q2, q3⟩
  refine ⟨b, o, q1, fun h => Nat.lt_of_lt_of_le (q2 h) hb.size, fun j u hu => ?_⟩
  have q2' := q2 (rowC_ne hu)
  rw [World.cell?, hb.block b (by omega)]
  exact q3 j u hu
theorem SL.kept {W W' : World} {v : Value} {l : List Contact} (h : SL W v l) (hs : W.heap.size ≤ W'.heap.size) (hb : ∀ b, v.ownBlock = some b → W'.heap[b]? = W.heap[b]?) : SL W' v l := by
  obtain ⟨base, cap, h1, h2, h3, h4⟩ := h
  refine ⟨base, cap, h1, h2, h3, h4.imp id ?_⟩
  rintro ⟨b, o, q1, q2, q3⟩
  refine ⟨b, o, q1, fun h => Nat.lt_of_lt_of_le (q2 h) hs, fun j u hu => ?_⟩
  rw [World.cell?, hb b (by rw [h1, q1]; rfl)]
  exact q3 j u hu
theorem SL.of_own {W : World} {base : Nat} {v : Value} {l : List Contact} (h : W.ownsRow base 35 6 v l.length (rowC l)) : SL W v l := by
  obtain ⟨hl, ⟨rfl, h0⟩ | ⟨g, cap, cur, rfl, hb, hh, hn, hm, hs, ht⟩⟩ := h
  · exact ⟨none, 0, by rw [h0], by omega, Nat.zero_le _, .inl ⟨List.length_eq_zero_iff.1 h0, rfl⟩⟩
  · refine ⟨_, cap, rfl, hn, hm, .inr ⟨g, 0, rfl, fun _ => (Array.getElem?_eq_some_iff.1 hh).1, fun j u hu => ?_⟩⟩
    rw [Nat.zero_add, cell_of_row W g j cur _ (0, 0) hh]
    rw [← ht, List.getElem?_take] at hu
    split at hu
    · simpa using hu
    · cases hu
theorem infoC : ∃ i, Try.prog.info? 35 = some i ∧ i.zero = some (.agg #[.int .i64 0, .int .i64 0, .int .i64 0, .int .i64 0, .int .i64 0, .int .i64 0]) ∧ i.size = 6 ∧ i.bytes = 48 := by
  have h : (Try.prog.info? 35).map (fun i => (i.zero, i.size, i.bytes)) = some (some (.agg #[.int .i64 0, .int .i64 0, .int .i64 0, .int .i64 0, .int .i64 0, .int .i64 0]), 6, 48) := by kernel_rfl
  cases hq : Try.prog.info? 35 with
  | none => rw [hq] at h; cases h
  | some i =>
    rw [hq] at h
    simp only [Option.map_some, Option.some.injEq, Prod.mk.injEq] at h
    exact ⟨i, rfl, h.1, h.2.1, h.2.2⟩
theorem run_append_SL {W : World} {base : Nat} {v s : Value} {n : Nat} {xs : List Value} {l : List Contact} (hown : W.ownsRow base 35 6 v n xs) (hs : SL W s l) (hn : n ≤ 1000000) (hl : l.length ≤ 1000000) (hbase : base ≤ W.heap.size) (ty : TypeId) :
    ∃ v' W', (Builtin.append_ #[22, 22] ty #[v, s]).run Try.prog W = .ok v' W' ∧ W'.ownsRow base 35 6 v' (n + l.length) (xs ++ rowC l) ∧ W.grownBy W' v.ownBlock ∧ (v'.ownBlock = v.ownBlock ∨ v'.ownBlock = some W.heap.size) := by
  obtain ⟨i, hi, hz, hsz, hby⟩ := infoC
  obtain ⟨b0, cap, rfl, h2, h3, h4⟩ := hs
  by_cases hb0 : b0 = none
  · subst hb0
    have hl0 : l = [] := by
      rcases h4 with ⟨h, _⟩ | ⟨b, o, e, _⟩
      · exact h
      · cases e
    subst hl0
    refine ⟨v, W, ?_, by simpa [rowC_nil] using hown, ⟨rfl, rfl, rfl, Nat.le_refl _, fun _ _ _ => rfl⟩, .inl rfl⟩
    obtain ⟨hxl, ⟨rfl, h0⟩ | ⟨g, cap', cur, rfl, hbg, hh, hnc, hm, hcs, ht⟩⟩ := hown
    · simp [Builtin.append_, run_underlying Try.underlying22, sizeOf, typeInfo, hi, Builtin.lenOf, Builtin.firstCells, loadCells, loadCellsFrom]
    · simp [Builtin.append_, run_underlying Try.underlying22, sizeOf, typeInfo, hi, Builtin.lenOf, Builtin.firstCells, loadCells, loadCellsFrom, hnc]
      simp [storeCells, Result.andThen]
  · obtain ⟨⟨b, o, q⟩, rfl⟩ := Option.ne_none_iff_exists'.1 hb0
    have hq : l = [] ∨ q = none := by
      rcases h4 with ⟨h, _⟩ | ⟨b', o', e, _⟩
      · exact .inl h
      · cases e; exact .inr rfl
    obtain ⟨v', W', r1, r2, r3, _, r4⟩ := run_append_own_at (P := Try.prog) W base 22 ty 35 i _ 6 48 Try.underlying22 hi hz hsz hby rfl (by decide) v n xs hown ⟨b, o, q⟩ l.length cap (rowC l) (rowC_len l) (fun j u hu => by
      rcases h4 with ⟨h, _⟩ | ⟨b', o', e, _, hc⟩
      · subst h; simp [rowC] at hu
      · cases e
        have := hc j u hu
        unfold Addr.add
        split
        · rename_i h0
          subst h0; simpa using this
        · simpa using this) (rowC_one l) (by unfold maxLen; omega) (by omega) hbase
    exact ⟨v', W', r1, r2, r3, r4⟩
end Go.Seq
namespace Go.Seq
open Go.RowKit Go.Shelf Go.Proofs Go.X Go.Proofs.Ytjcbpfhlgebgdaa Go.Eng
theorem grow_in (n : Nat) (hn : n ≤ 1000000) (w : World) : Calls Try.prog 35 #[.slice none 0 0, .int .i64 (n : Int)] w fun e w' =>
    ∃ v, e = .returned v ∧ Below w.heap.size w w' ∧ w'.ownsRow w.heap.size 35 6 v 0 [] := by
  by_cases h0 : n = 0
  · subst h0
    refine (Any8.slices_Grow_room Try.growL none 0 0 0 w (Nat.le_refl _) (by omega) (by omega) (Nat.le_refl _)).mono ?_
    rintro e w' ⟨rfl, rfl⟩
    exact ⟨_, rfl, Below.refl _ _, World.ownsRow_nil _ _ _ _⟩
  · obtain ⟨i, hi, hz, hsz, hby⟩ := infoC
    refine (Any8.slices_Grow_grow Try.growL i _ hi hz (by rw [hsz]; decide) none 0 0 n [] w (Nat.le_refl _) (by omega) (by rw [hby]; omega) (by omega) (by simp) (fun _ => rfl) (fun a h => by cases h)).mono ?_
    rintro e w' ⟨rfl, rfl⟩
    have hcap := grownCap_le_maxLen w (0 + n) 0 35 (by unfold maxLen; omega)
    have hge := grownCap_ge w (0 + n) 0 35
    refine ⟨_, rfl, ((Below.refl _ _).alloc (by exact Nat.le_refl _) _ : Below w.drew.heap.size w.drew _) |> fun h => ⟨h.os, h.tape, h.output, h.size, h.block⟩, ?_⟩
    refine World.ownsRow_made (base := w.heap.size) (e := 35) (size := 6) w.drew _ _ (Nat.le_refl _) hcap ?_
    simp only [Array.size_append, size_zeroCells, List.size_toArray, List.length_nil]
    have : (Value.agg #[.int .i64 0, .int .i64 0, .int .i64 0, .int .i64 0, .int .i64 0, .int .i64 0]).cells.size = 6 := rfl
    rw [this]
    have hr : Try.growL_ren.t 25 = 35 := rfl
    simp only [hr, Nat.zero_add, Nat.sub_zero] at hge ⊢
    rw [← Nat.add_mul]
    congr 1
    omega
theorem wr_add (a b : Nat) (ha : a ≤ 1000000) (hb : b ≤ 1000000) : IntKind.i64.wrap ((a : Int) + (b : Int)) = ((a + b : Nat) : Int) := by rw [IntKind.wrap_i64]; omega
set_option maxHeartbeats 4000000 in
set_option maxRecDepth 100000 in
theorem concat_in (W0 : World) (sa sb : Value) (A B : List Contact) (g : Nat) (hga : W0.cell? ⟨g, 0, none⟩ = some sa) (hgb : W0.cell? ⟨g, 1, none⟩ = some sb) (ha : SL W0 sa A) (hb : SL W0 sb B) (hA : A.length ≤ 200) (hB : B.length ≤ 200) :
    Calls Try.prog 20 #[.slice (some ⟨g, 0, none⟩) 2 2] W0 fun en W' => ∃ v, en = .returned v ∧ Below W0.heap.size W0 W' ∧ W'.ownsRow W0.heap.size 35 6 v (A.length + B.length) (rowC A ++ rowC B) := by
  have mixed : Try.prog.follows .mixedOrders = true := by kernel_rfl
  obtain ⟨ba, ca, rfl, a1, a2, a3⟩ := id ha
  obtain ⟨bb, cb, rfl, b1, b2, b3⟩ := id hb
  have hw1 : IntKind.i64.wrap ((A.length : Int) + (B.length : Int)) = ((A.length + B.length : Nat) : Int) := wr_add _ _ (by omega) (by omega)
  have hw0 : IntKind.i64.wrap (0 + (A.length : Int)) = (A.length : Int) := by rw [IntKind.wrap_i64]; omega
  have p1 : ¬ (A.length : Int) < 0 := by omega
  have p2 : ¬ (((A.length + B.length : Nat) : Int)) < 0 := by omega
  clear a1 a2 a3 b1 b2 b3
  obtain ⟨ha⟩ : Nonempty (Shut (SL W0 (.slice ba A.length ca) A)) := ⟨ha⟩
  obtain ⟨hb⟩ : Nonempty (Shut (SL W0 (.slice bb B.length cb) B)) := ⟨hb⟩
  go_enter Try.func20, Try.ntmps20
  go_wp2
  go_loopw [3, 11] (fun v3 v11 wr => wr = W0 ∧ ((v11 = .int .i64 0 ∧ v3 = .int .i64 0) ∨ (v11 = .int .i64 1 ∧ v3 = .int .i64 (A.length : Int)) ∨ (v11 = .int .i64 2 ∧ v3 = .int .i64 ((A.length + B.length : Nat) : Int))))
    (fun v3 v11 wr => (2 - RowKit.intOf v11).toNat)
  case atStart => exact ⟨rfl, .inl ⟨rfl, rfl⟩⟩
  case round =>
    obtain ⟨hW, h⟩ := hrel
    have hW := hW.symm
    subst hW
    rcases h with ⟨rfl, rfl⟩ | ⟨rfl, rfl⟩ | ⟨rfl, rfl⟩
    · go_wp2
      refine ⟨⟨trivial, .inr (.inl ⟨rfl, rfl⟩)⟩, ?_⟩
      simp only [RowKit.intOf]
      decide
    · go_wp2
      refine ⟨⟨trivial, .inr (.inr ⟨rfl, rfl⟩)⟩, ?_⟩
      simp only [RowKit.intOf]
      decide
    · go_wp2_with (go_at_call 35; refine (grow_in _ (by omega) _).mono ?_; rintro e W1 ⟨v, rfl, x1, ow⟩)
      obtain ⟨N, hN⟩ : ∃ N, W0.heap.size = N := ⟨_, rfl⟩
      rw [hN] at x1 ow
      go_loopw [6, 27] (fun v6 v27 w2 => Below N W0 w2 ∧ N ≤ w2.heap.size ∧ ((v27 = .int .i64 0 ∧ w2.ownsRow N 35 6 v6 0 []) ∨ (v27 = .int .i64 1 ∧ w2.ownsRow N 35 6 v6 A.length (rowC A)) ∨ (v27 = .int .i64 2 ∧ w2.ownsRow N 35 6 v6 (A.length + B.length) (rowC A ++ rowC B))))
        (fun v6 v27 w2 => (2 - RowKit.intOf v27).toNat)
      case atStart => exact ⟨x1, by have := x1.size; omega, .inl ⟨rfl, ow⟩⟩
      case round =>
        obtain ⟨x2, hs2, h⟩ := hrel
        have hga2 : wr.cell? ⟨g, 0, none⟩ = some (.slice ba A.length ca) := by
          rw [World.cell?, x2.block g (by have := World.block_lt_of_cell? W0 _ hga; simpa [hN] using this)]; exact hga
        have hgb2 : wr.cell? ⟨g, 1, none⟩ = some (.slice bb B.length cb) := by
          rw [World.cell?, x2.block g (by have := World.block_lt_of_cell? W0 _ hga; simpa [hN] using this)]; exact hgb
        have step : ∀ {v' : Value} {W' : World} {v6 : Value} {n : Nat} {xs : List Value}, wr.ownsRow N 35 6 v6 n xs → wr.grownBy W' v6.ownBlock → Below N W0 W' ∧ N ≤ W'.heap.size := fun hown hg =>
          ⟨⟨hg.os.trans x2.os, hg.tape.trans x2.tape, hg.output.trans x2.output, Nat.le_trans x2.size hg.size, fun k hk => (hg.block k (by omega) (fun e => by have := (own_blk2 hown e.symm).1; omega)).trans (x2.block k hk)⟩, Nat.le_trans hs2 hg.size⟩
        rcases h with ⟨rfl, hown⟩ | ⟨rfl, hown⟩ | ⟨rfl, hown⟩
        · obtain ⟨v', W', hrun, hown', hg, _⟩ := run_append_SL hown (SL.below ha.out (Nat.le_of_eq hN) x2) (by omega) (by omega) hs2 22
          obtain ⟨y1, y2⟩ := step (v' := v') hown hg
          rw [Nat.zero_add, List.nil_append] at hown'
          go_wp2_with (at_builtin; go_loud (refine Lib.wpList_append_run _ rfl _ _ _ _ rfl _ _ rfl rfl _ _ hrun ?_))
          refine ⟨⟨y1, y2, .inr (.inl ⟨rfl, hown'⟩)⟩, ?_⟩
          simp only [RowKit.intOf]
          decide
        · obtain ⟨v', W', hrun, hown', hg, _⟩ := run_append_SL hown (SL.below hb.out (Nat.le_of_eq hN) x2) (by omega) (by omega) hs2 22
          obtain ⟨y1, y2⟩ := step (v' := v') hown hg
          go_wp2_with (at_builtin; go_loud (refine Lib.wpList_append_run _ rfl _ _ _ _ rfl _ _ rfl rfl _ _ hrun ?_))
          refine ⟨⟨y1, y2, .inr (.inr ⟨rfl, hown'⟩)⟩, ?_⟩
          simp only [RowKit.intOf]
          decide
        · go_wp2
          go_ret
          rw [← hN] at x2 hown
          exact ⟨_, rfl, x2, hown⟩
end Go.Seq
