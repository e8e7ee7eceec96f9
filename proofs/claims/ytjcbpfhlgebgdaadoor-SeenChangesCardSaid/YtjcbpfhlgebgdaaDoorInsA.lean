import Derived.Test.YtjcbpfhlgebgdaaDoorInsL
import Derived.Test.YtjcbpfhlgebgdaaDoorChecked
import Derived.KernelRfl
import Derived.WalkKit
import Derived.Lib.Walk
import Derived.Lib.AppendZeros
import Derived.Shelf.Spec.SlicesInsert
import Derived.Lib.AppendZerosOnto
set_option linter.unusedSimpArgs false
set_option linter.unusedVariables false
namespace Go.Proofs.YtjcbpfhlgebgdaaDoor
open Go Go.Eng Go.RowKit Go.Lib Go.Proofs
set_option maxHeartbeats 4000000 in
set_option maxRecDepth 1000000 in
theorem ins_end (base : Option Addr) (n c : Nat) (va : Addr) (vc : Nat) (w w' : World) (v' : Value) (hc63 : c ≤ 9223372036854775807) (hnc : n ≤ c)
  (hrun : ∀ ty, (Builtin.append_ #[55, 55] ty #[.slice base n c, .slice (some va) 1 vc]).run Tryd.prog w = .ok v' w') :
  Calls Tryd.prog 91 #[.slice base n c, .int .i64 n, .slice (some va) 1 vc] w fun en w1 => en = .returned v' ∧ w1 = w' := by
 have hz2 : ((n : Int) = (n : Int)) := rfl
 cases base with
 | none =>
  go_enter Tryd.func91, Tryd.ntmps91
  go_wp2_with (at_builtin; refine Lib.wpList_append_run _ rfl _ _ _ _ rfl _ _ rfl rfl _ _ (hrun _) ?_)
  all_goals (go_ret; exact ⟨rfl, rfl⟩)
 | some a =>
  obtain ⟨ab, ao, asp⟩ := a
  go_enter Tryd.func91, Tryd.ntmps91
  go_wp2_with (at_builtin; refine Lib.wpList_append_run _ rfl _ _ _ _ rfl _ _ rfl rfl _ _ (hrun _) ?_)
  all_goals (go_ret; exact ⟨rfl, rfl⟩)
set_option maxHeartbeats 4000000 in
set_option maxRecDepth 1000000 in
theorem ins_shift (g n c i : Nat) (va : Addr) (vc : Nat) (cur cura : Array Value) (ta : TypeId) (fa : Nat × Nat) (vs : List Value) (w : World) (hi : i < n) (hroom : n + 1 ≤ c) (hc63 : c ≤ 9223372036854775807)
  (hg : w.heap[g]? = some (.cells cur 130 (0, 0))) (hcs : cur.size = c * 4) (hva : va.block ≠ g) (ha : w.heap[va.block]? = some (.cells cura ta fa)) (hna : cura.size ≠ 0) (hvl : vs.length = 4)
  (hvs : ∀ j v, vs[j]? = some v → w.cell? (va.add j) = some v) (h1 : ∀ v ∈ (cur.toList.drop (i * 4)).take ((n - i) * 4), v.oneCell' = true) (h1v : ∀ v ∈ vs, v.oneCell' = true) (cur1 cur2 : Array Value)
  (e1 : cur1 = (cur.toList.take ((i + 1) * 4) ++ (cur.toList.drop (i * 4)).take ((n - i) * 4) ++ cur.toList.drop ((i + 1) * 4 + (n - i) * 4)).toArray)
  (e2 : cur2 = (cur1.toList.take (i * 4) ++ vs ++ cur1.toList.drop (i * 4 + 4)).toArray) :
  Calls Tryd.prog 91 #[.slice (some ⟨g, 0, none⟩) n c, .int .i64 i, .slice (some va) 1 vc] w fun en w' => en = .returned (.slice (some ⟨g, 0, none⟩) (n + 1) c) ∧ w' = (w.drew.setRow g cur1).setRow g cur2 := by
 obtain ⟨vb, vo, vsp⟩ := va
 have hz1 : ¬ ((1 : Int) = 0) := by omega
 have hz2 : ¬ ((i : Int) = (n : Int)) := by omega
 have hsz : sizeT Tryd.prog 130 = some 4 := by kernel_rfl
 have hov : ∀ lb cb, (callFunc 145 #[.slice (some ⟨vb, vo, vsp⟩) 1 vc, .slice (some ⟨g, (i + 1) * 4, none⟩) lb cb]).run Tryd.prog w = .ok (.value (.bool false)) w := fun lb cb => by
  rw [run_callFunc_extern Tryd.func145 (by kernel_rfl) (by kernel_rfl) (by kernel_rfl) (e := Extern.SlicesOverlaps.overlaps #[55, 55] #[4]) (by kernel_rfl),
   run_overlapsN w 55 4 130 Tryd.underlying55 4 hsz ⟨vb, vo, vsp⟩ ⟨g, (i + 1) * 4, none⟩ 1 vc lb cb hva cura cur ta 130 fa ha hna hg]
  rfl
 have mixed : Tryd.prog.follows .mixedOrders = true := by kernel_rfl
 have hcl : c * 4 ≥ (n + 1) * 4 := Nat.mul_le_mul_right _ hroom
 have hl1 : ((cur.toList.drop (i * 4)).take ((n - i) * 4)).length = (n - i) * 4 := by simp; omega
 have hcp1 : ∀ ty dc sc, (Builtin.copy_ #[55, 55] ty #[.slice (some ⟨g, (i + 1) * 4, none⟩) (n - i) dc, .slice (some ⟨g, i * 4, none⟩) (n + 1 - i) sc]).run Tryd.prog w.drew = .ok (goInt (n - i)) (w.drew.setRow g cur1) := fun ty dc sc => by
  have := run_copyN (P := Tryd.prog) w.drew 55 55 ty 130 g ((i + 1) * 4) (n - i) dc ⟨g, i * 4, none⟩ (n + 1 - i) sc 4 cur 130 ((cur.toList.drop (i * 4)).take ((n - i) * 4)) Tryd.underlying55 hsz hg
   (by rw [hl1]; congr 1; simp only [Nat.min_def]; split <;> omega) (fun j v hj => by
    rw [List.getElem?_take] at hj
    split at hj
    ·rw [List.getElem?_drop] at hj
     rw [Addr.add_none, show ∀ x, w.drew.cell? x = w.cell? x from fun _ => rfl, cell_of hg, ← Array.getElem?_toList]
     exact hj
    ·cases hj) (by rw [hl1]; omega) h1
  rw [this, hl1, ← e1]
  congr 2
  simp only [Nat.min_def]; split <;> omega
 obtain ⟨W1, hW1⟩ : ∃ W1, W1 = w.drew.setRow g cur1 := ⟨_, rfl⟩
 have hg1 : W1.heap[g]? = some (.cells cur1 130 (0, 0)) := by rw [hW1]; exact setRow_heap w.drew g cur cur1 130 (0, 0) hg
 have hs1 : cur1.size = cur.size := by
  rw [e1]
  simp only [List.size_toArray, List.length_append, List.length_take, List.length_drop, Array.length_toList]
  omega
 have hcp2 : ∀ ty dc, (Builtin.copy_ #[55, 55] ty #[.slice (some ⟨g, i * 4, none⟩) (n + 1 - i) dc, .slice (some ⟨vb, vo, vsp⟩) 1 vc]).run Tryd.prog W1 = .ok (goInt 1) (W1.setRow g cur2) := fun ty dc => by
  have := run_copyN (P := Tryd.prog) W1 55 55 ty 130 g (i * 4) (n + 1 - i) dc ⟨vb, vo, vsp⟩ 1 vc 4 cur1 130 vs Tryd.underlying55 hsz hg1
   (by rw [hvl]; simp only [Nat.min_def]; split <;> omega) (fun j v hj => by
    have h0 := hvs j v hj
    rw [hW1]
    rw [show ∀ x, (w.drew.setRow g cur1).cell? x = (w.setRow g cur1).cell? x from fun _ => rfl]
    have hb : ((⟨vb, vo, vsp⟩ : Addr).add j).block = vb := by unfold Addr.add; split <;> rfl
    unfold World.cell? at h0 ⊢
    rw [setRow_other w g _ cur1 (by rw [hb]; exact hva)]
    exact h0) (by omega) h1v
  rw [this, hvl, ← e2]
  congr 2
  simp only [Nat.min_def]; split <;> omega
 have hw1 : IntKind.i64.wrap ((i : Int) + 1) = (i : Int) + 1 := by rw [IntKind.wrap_i64]; omega
 have hw2 : IntKind.i64.wrap ((n : Int) + 1) = (n : Int) + 1 := by rw [IntKind.wrap_i64]; omega
 rw [← hW1] at hcp1 ⊢
 clear hW1 e1 e2 h1 h1v hl1 hg hg1 hcs hs1 hcl ha hvs
 have hb1 : (0 : Int) ≤ (i : Int) + 1 := by omega
 have hin : i ≤ n := by omega
 have hb2 : ¬ (c = i + 1) := by omega
 have hb3 : (i : Int) ≤ (n : Int) + 1 := by omega
 have hb4 : ¬ (c = i) := by omega
 go_enter Tryd.func91, Tryd.ntmps91
 go_wp2_with (simp only [hov])
 go_region_law_o (refine step_copy_runI rfl _ _ 55 55 rfl _ _ (by simp [Act.eval, Act.put]) (by simp [Act.eval, Act.put]) (hcp1 _ _ _) ?_)
 go_wp2_with (at_builtin; refine wpList_copy_runI _ rfl _ _ 55 55 rfl _ _ rfl rfl (hcp2 _ _) ?_)
 go_ret
 exact ⟨rfl, rfl⟩
def insZ : Value := .agg #[.int .i64 0, .int .u64 0, .int .i64 0, .int .i64 0]
theorem ins_info : ∃ i0, Tryd.prog.info? 130 = some i0 ∧ i0.size = 4 ∧ i0.bytes = 32 ∧ i0.zero = some insZ := by
 have h : (Tryd.prog.info? 130).map (fun i => (i.size, i.bytes, i.zero)) = some (4, 32, some insZ) := by kernel_rfl
 cases hq : Tryd.prog.info? 130 with
 | none => rw [hq] at h; cases h
 | some i0 =>
  rw [hq] at h
  simp only [Option.map_some, Option.some.injEq, Prod.mk.injEq] at h
  exact ⟨i0, rfl, h.1, h.2.1, h.2.2⟩
set_option maxHeartbeats 4000000 in
set_option maxRecDepth 1000000 in
theorem ins_grow (g n c i : Nat) (va : Addr) (vc : Nat) (cur : Array Value) (vs : List Value) (w : World) (hi : i < n) (hnc : n ≤ c) (hroom : c < n + 1) (hbig : (n + 1) * 32 ≤ 140737488355328)
  (hg : w.heap[g]? = some (.cells cur 130 (0, 0))) (hcs : cur.size = c * 4) (hvb : va.block < w.heap.size) (hvl : vs.length = 4)
  (hvs : ∀ j v, vs[j]? = some v → w.cell? (va.add j) = some v) (h1 : ∀ v ∈ (cur.toList.drop (i * 4)).take ((n - i) * 4), v.oneCell' = true) (h1v : ∀ v ∈ vs, v.oneCell' = true) (row row2 row3 : Array Value) (G : Nat)
  (hG : G = grownCap w (n + 1) c 130) (hrow : row = (cur.toList.take (i * 4)).toArray ++ Builtin.zeroCells insZ.cells (n + 1 - i) ++ Builtin.zeroCells insZ.cells (G - (n + 1)))
  (e2 : row2 = (row.toList.take (i * 4) ++ vs ++ row.toList.drop (i * 4 + 4)).toArray)
  (e3 : row3 = (row2.toList.take ((i + 1) * 4) ++ (cur.toList.drop (i * 4)).take ((n - i) * 4) ++ row2.toList.drop ((i + 1) * 4 + (n - i) * 4)).toArray) :
  Calls Tryd.prog 91 #[.slice (some ⟨g, 0, none⟩) n c, .int .i64 i, .slice (some va) 1 vc] w fun en w' => en = .returned (.slice (some ⟨w.heap.size, 0, none⟩) (n + 1) G) ∧
   w' = ((w.drew.alloc (.cells row 130)).setRow w.heap.size row2).drew.setRow w.heap.size row3 := by
 obtain ⟨vb, vo, vsp⟩ := va
 obtain ⟨i0, hi0, hs0, hb0, hz0⟩ := ins_info
 have hz1 : ¬ ((1 : Int) = 0) := by omega
 have hz2 : ¬ ((i : Int) = (n : Int)) := by omega
 have hz3 : (c : Int) < (n : Int) + 1 := by omega
 have hsz : sizeT Tryd.prog 130 = some 4 := by kernel_rfl
 have mixed : Tryd.prog.follows .mixedOrders = true := by kernel_rfl
 have hgw : g < w.heap.size := (Array.getElem?_eq_some_iff.1 hg).1
 have hkk : (n : Int) + 1 - (i : Int) = ((n + 1 - i : Nat) : Int) := by omega
 have hik : i + (n + 1 - i) = n + 1 := by omega
 have hcl : n * 4 ≤ c * 4 := Nat.mul_le_mul_right _ hnc
 have hold : (Builtin.firstCells i0.size i (.slice (some ⟨g, 0, none⟩) i c)).run Tryd.prog w.drew = .ok (cur.toList.take (i * 4)).toArray w.drew := by
  rw [hs0]
  have hl : (cur.toList.take (i * 4)).length = i * 4 := by simp; omega
  have := run_loadCells_list (P := Tryd.prog) w.drew ⟨g, 0, none⟩ (cur.toList.take (i * 4)) (fun j v hj => by
   rw [List.getElem?_take] at hj
   split at hj
   ·rw [Addr.add_none, Nat.zero_add, show ∀ x, w.drew.cell? x = w.cell? x from fun _ => rfl, cell_of hg, ← Array.getElem?_toList]
    exact hj
   ·cases hj)
  rw [hl] at this
  simpa [Builtin.firstCells] using this
 have hrz : ∀ ty, (Builtin.append_ #[55, 3] ty #[.slice (some ⟨g, 0, none⟩) i c, .int .i64 ((n : Int) + 1 - (i : Int))]).run Tryd.prog w = .ok (.slice (some ⟨w.heap.size, 0, none⟩) (n + 1) G) (w.drew.alloc (.cells row 130)) := fun ty => by
  have h := Lib.run_append_grow_zeros w 55 3 ty 130 i0 _ .i64 .i64 Tryd.underlying55 Tryd.underlying3 hi0 hz0 (some ⟨g, 0, none⟩) i c (cur.toList.take (i * 4)) hold (n + 1 - i) (by omega) (by omega) (by omega) (by omega) (by rw [hb0]; omega) (by rw [hb0, hik]; exact growslice_fits hroom hbig)
  rw [hik, ← hG, ← hrow] at h
  rw [hkk]
  exact h
 have hGn : n + 1 ≤ G := by rw [hG]; exact grownCap_ge w _ _ _
 have hG63 : G ≤ 9223372036854775807 := by
  have := grownCap_le_maxLen w (n + 1) c 130 (by unfold maxLen; omega)
  rw [← hG] at this
  unfold maxLen at this
  omega
 have hzl : ∀ k, (Builtin.zeroCells insZ.cells k).size = k * 4 := fun k => by simp [Builtin.zeroCells, insZ, Value.cells]
 have hrs : row.size = G * 4 := by
  rw [hrow]
  simp only [Array.size_append, List.size_toArray, List.length_take, Array.length_toList, hzl]
  omega
 have hr2 : row2.size = G * 4 := by
  rw [e2]
  simp only [List.size_toArray, List.length_append, List.length_take, List.length_drop, Array.length_toList]
  omega
 obtain ⟨W1, hW1⟩ : ∃ W1, W1 = w.drew.alloc (.cells row 130) := ⟨_, rfl⟩
 have hN1 : W1.heap[w.heap.size]? = some (.cells row 130 (0, 0)) := by rw [hW1]; exact heap_alloc_new w.drew _
 have hc1 : ∀ (x : Addr), x.block < w.heap.size → W1.cell? x = w.cell? x := fun x hx => by
  unfold World.cell?
  rw [hW1, heap_alloc_old w.drew _ hx]; rfl
 have hl1 : ((cur.toList.drop (i * 4)).take ((n - i) * 4)).length = (n - i) * 4 := by simp; omega
 have hcpA : ∀ ty dc, (Builtin.copy_ #[55, 55] ty #[.slice (some ⟨w.heap.size, i * 4, none⟩) (n + 1 - i) dc, .slice (some ⟨vb, vo, vsp⟩) 1 vc]).run Tryd.prog W1 = .ok (goInt 1) (W1.setRow w.heap.size row2) := fun ty dc => by
  have := run_copyN (P := Tryd.prog) W1 55 55 ty 130 w.heap.size (i * 4) (n + 1 - i) dc ⟨vb, vo, vsp⟩ 1 vc 4 row 130 vs Tryd.underlying55 hsz hN1
   (by rw [hvl]; simp only [Nat.min_def]; split <;> omega) (fun j v hj => by
    have hb : ((⟨vb, vo, vsp⟩ : Addr).add j).block = vb := by unfold Addr.add; split <;> rfl
    rw [hc1 _ (by rw [hb]; exact hvb)]
    exact hvs j v hj) (by rw [hvl, hrs]; omega) h1v
  rw [this, hvl, ← e2]
  congr 2
  simp only [Nat.min_def]; split <;> omega
 obtain ⟨W2, hW2⟩ : ∃ W2, W2 = W1.setRow w.heap.size row2 := ⟨_, rfl⟩
 have hN2 : W2.drew.heap[w.heap.size]? = some (.cells row2 130 (0, 0)) := by rw [hW2]; exact setRow_heap W1 w.heap.size row row2 130 (0, 0) hN1
 have hc2 : ∀ (x : Addr), x.block < w.heap.size → W2.drew.cell? x = w.cell? x := fun x hx => by
  rw [← hc1 x hx]
  unfold World.cell?
  rw [hW2, show (W1.setRow w.heap.size row2).drew.heap = (W1.setRow w.heap.size row2).heap from rfl, setRow_other W1 w.heap.size _ row2 (by omega)]
 have hcpB : ∀ ty dc sc, (Builtin.copy_ #[55, 55] ty #[.slice (some ⟨w.heap.size, (i + 1) * 4, none⟩) (n - i) dc, .slice (some ⟨g, i * 4, none⟩) (n - i) sc]).run Tryd.prog W2.drew = .ok (goInt (n - i)) (W2.drew.setRow w.heap.size row3) := fun ty dc sc => by
  have := run_copyN (P := Tryd.prog) W2.drew 55 55 ty 130 w.heap.size ((i + 1) * 4) (n - i) dc ⟨g, i * 4, none⟩ (n - i) sc 4 row2 130 ((cur.toList.drop (i * 4)).take ((n - i) * 4)) Tryd.underlying55 hsz hN2
   (by rw [hl1]; congr 1; simp only [Nat.min_def]; split <;> omega) (fun j v hj => by
    rw [hc2 _ (by rw [Addr.add_none]; exact hgw)]
    rw [List.getElem?_take] at hj
    split at hj
    ·rw [List.getElem?_drop] at hj
     rw [Addr.add_none, cell_of hg, ← Array.getElem?_toList]
     exact hj
    ·cases hj) (by rw [hl1, hr2]; omega) h1
  rw [this, hl1, ← e3]
  congr 2
  simp only [Nat.min_def]; split <;> omega
 rw [← hW1] at hrz ⊢
 rw [← hW2] at hcpA ⊢
 have hw1 : IntKind.i64.wrap ((i : Int) + 1) = (i : Int) + 1 := by rw [IntKind.wrap_i64]; omega
 have hw2 : IntKind.i64.wrap ((n : Int) + 1) = (n : Int) + 1 := by rw [IntKind.wrap_i64]; omega
 have hw3 : IntKind.i64.wrap ((n : Int) + 1 - (i : Int)) = (n : Int) + 1 - (i : Int) := by rw [IntKind.wrap_i64]; omega
 have hb1 : (0 : Int) ≤ (i : Int) + 1 := by omega
 have hin : i ≤ n := by omega
 have hic : i ≤ c := by omega
 have hin1 : (i : Int) ≤ (n : Int) + 1 := by omega
 have hGi : ¬ (G = i) := by omega
 have hGi1 : ¬ (G = i + 1) := by omega
 have hci : ¬ (c = i) := by omega
 obtain ⟨N, hN⟩ : ∃ N, N = w.heap.size := ⟨_, rfl⟩
 rw [← hN] at hrz hcpA hcpB hW2 hN1 hN2 ⊢
 clear hkk hik hold hrow hG e2 e3 hW1 hW2 hrs hr2 hN1 hN2 hc1 hc2 hl1 h1 h1v hvs hg hcs hcl hi0 hs0 hb0 hz0 hzl hN hgw hvb
 go_enter Tryd.func91, Tryd.ntmps91
 go_wp2_with (first
  | (at_builtin; refine Lib.wpList_append_run _ rfl _ _ _ _ rfl _ _ rfl rfl _ _ (hrz _) ?_)
  | (at_builtin; refine wpList_copy_runI _ rfl _ _ 55 55 rfl _ _ rfl rfl (hcpA _ _) ?_))
 go_region_law_o (refine step_copy_runI rfl _ _ 55 55 rfl _ _ (by simp [Act.eval, Act.put]) (by simp [Act.eval, Act.put]) (hcpB _ _ _) ?_)
 go_wp2
 go_ret
 exact ⟨rfl, rfl⟩
end Go.Proofs.YtjcbpfhlgebgdaaDoor
