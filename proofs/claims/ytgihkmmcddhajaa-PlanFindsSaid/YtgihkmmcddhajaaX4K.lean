import Derived.Test.YtgihkmmcddhajaaX4S
import Derived.Shelf.SlSortCmp.NoneTotal
/- X, part 4K: the kit's contract of slices.SortFunc at structs, as a sort in place. -/
namespace Go.X
open Go.Eng
open Go.RowKit Go.Proofs Go.Shelf Go.Lib Go.Sort
set_option linter.unusedSimpArgs false
set_option linter.unusedVariables false

theorem grow_of_left {w w' : World} {pr pr' : Nat → Nat → Prop} (h : Go.Eng.Left w pr (fun _ => none) w' pr') : ∃ q os', w' = grow (w.drewN q) os' := by
  have hd : w.drawn ≤ w'.drawn := h.drawn
  refine ⟨w'.drawn - w.drawn, w'.heap.extract w.heap.size w'.heap.size, ?_⟩
  have hheap : w'.heap = w.heap ++ w'.heap.extract w.heap.size w'.heap.size := by
    apply Array.ext_getElem?
    intro k
    by_cases hk : k < w.heap.size
    · rw [Array.getElem?_append_left hk]
      exact h.block k hk (fun i hi => by cases hi)
    · rw [Array.getElem?_append_right (by omega)]
      by_cases hk' : k < w'.heap.size
      · rw [Array.getElem?_extract]
        have : min w'.heap.size w'.heap.size - w.heap.size = w'.heap.size - w.heap.size := by simp
        rw [if_pos (by simp; omega)]
        congr 1; omega
      · rw [Array.getElem?_eq_none (by omega), Array.getElem?_eq_none (by simp; omega)]
  have e1 := h.os; have e2 := h.tape; have e3 := h.output
  obtain ⟨heap', tape', drawn', os', output'⟩ := w'
  obtain ⟨heap, tape, drawn, os, output⟩ := w
  simp only at e1 e2 e3 hd hheap
  subst e1; subst e2; subst e3
  simp only [grow, World.drewN]
  congr 1
  omega

variable {P : Program} {ρ : Ren} {α : Type} [Inhabited α]

theorem sortWorldK_old {encL : α → List Value} {k : Nat} {w : World} {blk off m : Nat} {dk : Array α} {os : Array Obj} {b : Nat} (hb : b < w.heap.size) (hne : b ≠ blk) : (sortWorldK encL k w blk off m dk os).heap[b]? = w.heap[b]? := by
  unfold sortWorldK
  rw [heap_grow_old _ _ (by show b < (Go.Sort.putRow id (Go.Sort.ahead w m) blk off _).heap.size; rw [Go.Sort.size_putRow]; exact hb)]
  show ((Sort.ahead w m).heap.modify blk _)[b]? = _
  rw [Array.getElem?_modify, if_neg (Ne.symm hne)]
  rfl

set_option maxHeartbeats 1000000 in
theorem Sorts.of_kit (L : SlLaysF0.n6 P ρ) (k : Nat) (aE : ∀ w, (Go.isAgg (ρ.t 24)).run P w = .ok true w) (zE : ∀ w, (Go.sizeOf (ρ.t 24)).run P w = .ok k w) (enc : α → V) (encL : α → List Value) (hk : ∀ x, (encL x).length = k) (h1 : ∀ x, ∀ v ∈ encL x, v.oneCell' = true)
    (hR : ∀ (E : Env) x v, R E (enc x) v ↔ v = .agg (encL x).toArray) (cf : α → α → Int) (hO : SWO (ltOf cf)) (g : Nat) (eg : ∀ args w, (callFunc g args).run P w = .ok (.enter g args) w)
    (hfn : ∀ x y, Go.Eng.Fn P g [enc x, enc y] [] (.int .i64 (cf x y)) []) :
    Sorts P (ρ.f 6) (some g) enc k (fun d => (pdq (ltOf cf) d.toArray 0 d.length (Lib.bitLen d.length) true true).toList) := by
  have hperm : ∀ d : Array α, PermIn 0 d.size d (pdq (ltOf cf) d 0 d.size (Lib.bitLen d.size) true true) := fun d => (pdq_sorts (ltOf cf) hO d 0 d.size (Lib.bitLen d.size) true true (Nat.zero_le _) (Nat.le_refl _) (Or.inl rfl)).1
  refine ⟨?_, ?_, ?_⟩
  · intro w pr base cap hl
    refine (AnyF.slices_SortFunc_none L base cap _ w).mono ?_
    rintro en w' ⟨rfl, rfl⟩
    exact ⟨rfl, Below.refl _ _, DLE.refl _⟩
  · intro w pr lam blk cap d cur e hl hgl hne hcp hm hlt hgb hsz hrr
    have hblk : blk < w.heap.size := (Array.getElem?_eq_some_iff.1 hgb).1
    have hcmp : CmpLays P g #[] encL k cf blk 0 d.toArray.size w := by
      intro m os dk hdk x y
      have hW1 := size_sortWorldK_c encL k w blk 0 m dk os
      have hW2 : ∀ b, b < w.heap.size → b ≠ blk → (sortWorldK encL k w blk 0 m dk os).heap[b]? = w.heap[b]? := fun b hb hne => sortWorldK_old hb hne
      generalize sortWorldK encL k w blk 0 m dk os = W at hW1 hW2 ⊢
      have hl' : HL W pr := by
        refine ⟨fun b o hp => Nat.lt_of_lt_of_le (hl.lt b o hp) hW1, fun q vs hq => ?_⟩
        obtain ⟨⟨ty, h3⟩, h4⟩ := hl.glob q vs hq
        exact ⟨⟨ty, (hW2 q (Array.getElem?_eq_some_iff.1 h3).1 (Ne.symm (hgl q vs hq))).trans h3⟩, h4⟩
      rw [Array.append_empty]
      have hF := hfn x y
      unfold Go.Eng.Fn at hF
      have hargs : RL ⟨W, pr, fun _ => none⟩ [enc x, enc y] (#[Value.agg (encL x).toArray, Value.agg (encL y).toArray] : Array Value).toList := by
        simp only [RL]
        exact ⟨_, _, rfl, (hR _ x _).2 rfl, _, _, rfl, (hR _ y _).2 rfl, rfl⟩
      have hc := hF W pr (fun _ => none) #[.agg (encL x).toArray, .agg (encL y).toArray] hl' hargs (fun i B hi => by simp at hi) (fun i j b hi => by cases hi) (fun _ _ => rfl)
      refine Calls.mono hc ?_
      rintro en w' ⟨v, pr', rfl, hr, _, hleft⟩
      simp only [R] at hr
      subst hr
      exact ⟨rfl, grow_of_left hleft⟩
    have hcells : ∀ q, w.cell? ⟨blk, q, none⟩ = cur[q]? := fun q => by simp [World.cell?, hgb]
    have hH : HoldsK encL k w blk 0 d.toArray := by
      intro j hj
      rw [size_flatK] at hj
      refine ⟨?_, ?_⟩
      · rw [get_flatK encL k d.toArray j hj]
        have hkpos : 0 < k := by
          rcases Nat.eq_zero_or_pos k with h0 | h0
          · subst h0; simp at hj
          · exact h0
        have hi : j / k < d.length := by
          have : d.toArray.size = d.length := by simp
          rw [this] at hj
          exact Nat.div_lt_of_lt_mul (by rw [Nat.mul_comm]; exact hj)
        obtain ⟨y, p1, p2, p3⟩ := hrr.get (j / k) (enc d[j / k]) (by simp [hi])
        rw [hR] at p1
        subst p1
        have hlt : j % k < (encL d[j / k]).length := by rw [hk]; exact Nat.mod_lt _ hkpos
        obtain ⟨p4, _⟩ := p3 (j % k) ((encL d[j / k])[j % k]) (by simp [Value.cells, hlt])
        have p5 : w.cell? ⟨blk, 0 + (j / k) * k + j % k, none⟩ = some ((encL d[j / k])[j % k]) := p4.1
        have e : 0 + (j / k) * k + j % k = 0 + j := by
          have := Nat.div_add_mod j k
          rw [Nat.mul_comm] at this
          omega
        rw [e] at p5
        rw [p5]
        simp [hi, hlt]
      · simp [World.frozen?, hgb]
    have hmax : d.toArray.size < 4611686018427387904 := by
      simpa only [List.size_toArray] using hlt
    have hcon := AnyQ.slices_SortFunc_eq L k aE zE encL hk h1 cf hO g #[] blk 0 cap d.toArray w eg hcmp hH hblk hmax
    rw [List.size_toArray] at hcon
    refine hcon.mono ?_
    rintro en w' ⟨rfl, n, os, rfl⟩
    refine ⟨rfl, ?_⟩
    have hDs : (pdq (ltOf cf) d.toArray 0 d.length (Lib.bitLen d.length) true true).size = d.length := by
      have := (hperm d.toArray).1
      rwa [List.size_toArray] at this
    generalize pdq (ltOf cf) d.toArray 0 d.length (Lib.bitLen d.length) true true = D at hDs ⊢
    have hH' := holdsK_putRowK encL k (Go.Sort.ahead w n) blk 0 d.toArray D (holdsK_ahead encL k w n blk 0 d.toArray hH) (by simpa using hDs)
    refine ⟨putRowK encL k (Go.Sort.ahead w n) blk 0 D, putCells id 0 (flatK encL k D) cur, ⟨rfl, rfl, rfl, Nat.le_add_right _ _, ?_, fun b hb => ?_⟩, ?_, ?_, ?_, ?_, ?_⟩
    · show (Go.Sort.putRow id (Go.Sort.ahead w n) blk 0 _).heap.size = _
      rw [Go.Sort.size_putRow]; rfl
    · show ((Go.Sort.ahead w n).heap.modify blk _)[b]? = _
      rw [Array.getElem?_modify, if_neg (Ne.symm hb)]
      rfl
    · show ((Go.Sort.ahead w n).heap.modify blk _)[blk]? = _
      rw [Array.getElem?_modify, if_pos rfl]
      show (w.heap[blk]?).map _ = _
      rw [hgb]
      rfl
    · simp [putCells]
    · refine RR.of_get fun i r hi => ?_
      rw [List.getElem?_map] at hi
      cases hDi : D.toList[i]? with
      | none => rw [hDi] at hi; cases hi
      | some x =>
        rw [hDi] at hi
        cases hi
        have hil : i < D.size := by
          have := (List.getElem?_eq_some_iff.1 hDi).1
          simpa using this
        have hdi : i < d.length := by omega
        have hx : D[i]! = x := by
          have : D[i]? = some x := by simpa using hDi
          rw [getElem!_def, this]
        refine ⟨.agg (encL x).toArray, (hR _ x _).2 rfl, by simp [Value.cells, hk], fun j z hz => ?_⟩
        have hz' : (encL x)[j]? = some z := by simpa [Value.cells] using hz
        have hj : j < k := by
          have := (List.getElem?_eq_some_iff.1 hz').1
          rwa [hk] at this
        have hbound : i * k + j < D.size * k := by
          have := Nat.mul_le_mul_right k (show i + 1 ≤ D.size from hil)
          rw [Nat.add_mul, Nat.one_mul] at this
          omega
        obtain ⟨c1, _⟩ := hH' (i * k + j) (by rw [size_flatK]; exact hbound)
        rw [get_flatK encL k D _ hbound] at c1
        have e1 : (i * k + j) / k = i := by
          rw [Nat.mul_comm, Nat.mul_add_div (by omega), Nat.div_eq_of_lt hj]; omega
        have e2 : (i * k + j) % k = j := by
          rw [Nat.mul_comm, Nat.mul_add_mod, Nat.mod_eq_of_lt hj]
        rw [e1, e2, hx] at c1
        have hzz : (encL x)[j]! = z := by rw [getElem!_def, hz']
        rw [hzz] at c1
        refine ⟨⟨?_, ?_⟩, h1 x z (List.mem_of_getElem? hz')⟩
        · have : 0 + i * k + j = 0 + (i * k + j) := by omega
          rw [this]; exact c1
        · obtain ⟨y, p1, p2, p3⟩ := hrr.get i (enc d[i]) (by simp [hdi])
          have hlt' : j < y.cells.size := by rw [p2]; exact hj
          exact (p3 j y.cells[j] (Array.getElem?_eq_getElem hlt')).1.2
    · refine ⟨rfl, rfl, rfl, ?_, fun b hb => ?_⟩
      · show _ ≤ (grow _ _).heap.size
        rw [size_grow]; exact Nat.le_add_right _ _
      · exact heap_grow_old _ _ hb
    · exact Nat.le_refl _
  · intro d
    have := (hperm d.toArray).1
    simpa using this
end Go.X
