import Derived.Test.YtecpknddocikaaaGreatDoorX9
import Derived.Shelf.Sort.Plain
import Derived.Shelf.Slices.In.SortNone
set_option linter.unusedSimpArgs false
set_option linter.unusedVariables false
namespace Go.X
open Go.Eng
open Go.RowKit Go.Proofs Go.Shelf Go.Lib Go.Sort
variable {P : Program} {ρ : Ren}
def srtI (d : List Int) : List Int := d.mergeSort fun x y => decide (x ≤ y)
theorem Sorts.of_ints (L : Lays.n189 P ρ) : Sorts P (ρ.f 189) none enc_i64 1 srtI := by
  refine ⟨?_, ?_, ?_⟩
  · intro w pr base cap hl
    refine (Any.slices_Sort_int_none L base cap w).mono ?_
    rintro en w' ⟨rfl, rfl⟩
    exact ⟨rfl, Below.refl _ _, DLE.refl _⟩
  · intro w pr lam blk cap d cur e hl hgl hne hcp hm hlt hgb hsz hrr
    have hblk : blk < w.heap.size := (Array.getElem?_eq_some_iff.1 hgb).1
    have hcell : ∀ j, j < d.length → w.cell? ⟨blk, 0 + j, none⟩ = some (.int .i64 (d.getD j 0)) ∧ pr blk (0 + j) := by
      intro j hj
      obtain ⟨y, p1, p2, p3⟩ := hrr.get j (enc_i64 d[j]) (by simp [hj])
      simp only [enc_i64, R] at p1
      subst p1
      obtain ⟨p4, _⟩ := p3 0 (.int .i64 d[j]) (by simp [Value.cells])
      have e1 : 0 + j * 1 + 0 = 0 + j := by omega
      rw [e1] at p4
      rw [List.getD_eq_getElem?_getD, List.getElem?_eq_getElem hj]
      exact ⟨p4.1, p4.2⟩
    have hH : Holds (Value.int .i64) w blk 0 d.toArray := by
      intro j hj
      have hj' : j < d.length := by simpa using hj
      refine ⟨?_, ?_⟩
      · rw [(hcell j hj').1]
        rw [List.getD_eq_getElem?_getD, List.getElem?_eq_getElem hj']
        simp [hj']
      · simp [World.frozen?, hgb]
    have hcon := Any.slices_Sort_int L blk 0 cap d w hH hblk hlt
    refine hcon.mono ?_
    rintro en w' ⟨rfl, n, os, rfl⟩
    refine ⟨rfl, ?_⟩
    have hperm : (srtI d).Perm d := List.mergeSort_perm _ _
    have hl2 : (srtI d).length = d.length := hperm.length_eq
    show ∃ w1 cur', Swap w w1 blk ∧ w1.heap[blk]? = some (.cells cur' e (0, 0)) ∧ cur'.size = cur.size ∧ RR ⟨w1, pr, lam⟩ blk 1 0 ((srtI d).map enc_i64) ∧ Below w1.heap.size w1 (grow (putRow (Value.int .i64) (Sort.ahead w n) blk 0 (srtI d).toArray) os) ∧ DLE w1 (grow (putRow (Value.int .i64) (Sort.ahead w n) blk 0 (srtI d).toArray) os)
    generalize srtI d = D at hl2
    have hsH : Holds (Value.int .i64) (Sort.ahead w n) blk 0 d.toArray := fun j hj => hH j hj
    refine ⟨putRow (Value.int .i64) (Go.Sort.ahead w n) blk 0 D.toArray, putCells (Value.int .i64) 0 D.toArray cur, ⟨rfl, rfl, rfl, DLE.of_le (Nat.le_add_right _ _), ?_, fun b hb => ?_⟩, ?_, ?_, ?_, ?_, ?_⟩
    · show (Go.Sort.putRow _ (Go.Sort.ahead w n) blk 0 _).heap.size = _
      rw [Go.Sort.size_putRow]; rfl
    · show ((Go.Sort.ahead w n).heap.modify blk _)[b]? = _
      rw [Array.getElem?_modify, if_neg (Ne.symm hb)]
      rfl
    · show ((Go.Sort.ahead w n).heap.modify blk _)[blk]? = _
      rw [Array.getElem?_modify, if_pos rfl]
      show (w.heap[blk]?).map _ = _
      rw [hgb]
      rfl
    · simp [putCells]
    · refine RR.of_get fun i r hi => ?_
      rw [List.getElem?_map] at hi
      cases hDi : D[i]? with
      | none => rw [hDi] at hi; cases hi
      | some x =>
        rw [hDi] at hi
        cases hi
        have hil : i < D.length := (List.getElem?_eq_some_iff.1 hDi).1
        refine ⟨.int .i64 x, by simp [enc_i64, R], by simp [Value.cells], fun j z hz => ?_⟩
        have hj : j = 0 := by
          have := (Array.getElem?_eq_some_iff.1 hz).1
          simp [Value.cells] at this
          omega
        subst hj
        simp [Value.cells] at hz
        subst hz
        have hput := holds_putRow (Value.int .i64) (Go.Sort.ahead w n) blk 0 d.toArray D.toArray hsH (by simp [hl2])
        have := (hput i (by simpa using hil)).1
        refine ⟨⟨?_, ?_⟩, rfl⟩
        · have e1 : 0 + i * 1 + 0 = 0 + i := by omega
          rw [e1, this]
          have : D.toArray[i]! = x := by
            rw [getElem!_def]
            simp [hDi]
          rw [this]
        · have e1 : 0 + i * 1 + 0 = 0 + i := by omega
          rw [e1]
          exact (hcell i (by omega)).2
    · refine ⟨rfl, rfl, rfl, ?_, fun b hb => ?_⟩
      · show _ ≤ (grow _ _).heap.size
        rw [size_grow]; exact Nat.le_add_right _ _
      · exact heap_grow_old _ _ hb
    · exact DLE.of_le (Nat.le_refl _)
  · intro d
    exact (List.mergeSort_perm _ _).length_eq
end Go.X
