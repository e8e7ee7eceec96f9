import Derived.Test.YtjcbpfhlgebgdaaDoorInsA
set_option linter.unusedSimpArgs false
set_option linter.unusedVariables false
namespace Go.Proofs.YtjcbpfhlgebgdaaDoor
open Go Go.Eng Go.RowKit Go.Lib Go.Proofs
theorem cell_inv {w : World} {b o : Nat} {z : Value} (h : w.cell? ⟨b, o, none⟩ = some z) : ∃ cur t fz, w.heap[b]? = some (.cells cur t fz) ∧ cur[o]? = some z := by
 unfold World.cell? at h
 dsimp only at h
 split at h
 ·rename_i cur t fz hq
  exact ⟨cur, t, fz, hq, by simpa using h⟩
 ·cases h
theorem ins_fnM (rows : List V) (r : V) (i : Nat) (hi : i ≤ rows.length) (hro : rowsOK 4 rows) (hrv : rowsOK 4 [r]) (hfr : V.flatL rows = true) (hfv : r.flat = true) (hbig : (rows.length + 1) * 32 ≤ 140737488355328) :
  FnM Tryd.prog 91 [.list rows, .int .i64 i, .list [r]] [] 0 130 (.list (rows.take i ++ [r] ++ rows.drop i)) [] := by
 intro w pr lam cargs hl hown hargs hoth hins hinj hlam
 simp only [RL] at hargs
 obtain ⟨x0, ys0, hc, hR0, x1, ys1, rfl, hR1, x2, ys2, rfl, hR2, rfl⟩ := hargs
 have hca : cargs = #[x0, x1, x2] := by rw [← Array.toList_inj]; simpa using hc
 subst hca
 have hx0 : (#[x0, x1, x2] : Array Value).getD 0 undef = x0 := rfl
 have hR2' := hoth 2 (.list [r]) (by decide) rfl
 rw [hx0] at hown hR2' ⊢
 change R ⟨w, prM pr (gblock 0 x0), lam⟩ (.list [r]) x2 at hR2'
 simp only [R] at hR0 hR1 hR2'
 subst hR1
 obtain ⟨base, c, rfl, hle, hm, hrow⟩ := hR0
 obtain ⟨base2, c2, rfl, _, _, hrow2⟩ := hR2'
 have hsz : sizeT Tryd.prog 130 = some 4 := by kernel_rfl
 obtain ⟨i0, hi0, hs0, hb0, hz0⟩ := ins_info
 rcases hrow2 with ⟨h, _⟩ | ⟨vb, vo, kv, rfl, hv⟩
 ·cases h
 have hkv : kv = 4 := by
  have := hv.size hrv (List.mem_singleton.2 rfl)
  omega
 subst hkv
 obtain ⟨yv, v1, v2, v3⟩ := hv.vals
 have hvlen : yv.length = 1 := v1.length.symm
 have hvsl : (flatC yv).length = 4 := by rw [flatC_length v2, hvlen]
 have hvs : ∀ (j : Nat) (v : Value), (flatC yv)[j]? = some v → w.cell? ((⟨vb, vo, none⟩ : Addr).add j) = some v := fun j v hj => by rw [Addr.add_none]; exact (v3 j v hj).1.1
 have hone : ∀ v ∈ flatC yv, v.oneCell' = true := fun v hv => by
  obtain ⟨j, hj⟩ := List.mem_iff_getElem?.1 hv
  exact (v3 j v hj).2
 obtain ⟨z0, hz⟩ : ∃ z, (flatC yv)[0]? = some z := ⟨_, List.getElem?_eq_getElem (by omega)⟩
 have hvbw : vb < w.heap.size := hl.lt _ _ (v3 0 z0 hz).1.2.1
 have hvne : ∀ g, gblock 0 (.slice base rows.length c) = some g → vb ≠ g := fun g hg e => (v3 0 z0 hz).1.2.2 (by rw [hg, e])
 obtain ⟨cura, ta, fa, ha, hao⟩ := cell_inv (v3 0 z0 hz).1.1
 have hna : cura.size ≠ 0 := fun e => by
  rw [Array.getElem?_eq_none (by omega)] at hao; cases hao
 have v1' : RL ⟨w, pr, lam⟩ [r] yv := RL.flat [r] yv (by simp [V.flatL, hfv]) v1
 have hxl : (Builtin.lenOf (.slice (some ⟨vb, vo, none⟩) 1 c2)).run Tryd.prog w = .ok 1 w := by simp [Builtin.lenOf]
 have hxf : ∀ w', (∀ x, w'.cell? x = w.cell? x) → (Builtin.firstCells i0.size 1 (.slice (some ⟨vb, vo, none⟩) 1 c2)).run Tryd.prog w' = .ok (flatC yv).toArray w' := fun w' hw => by
  have := run_loadCells_list (P := Tryd.prog) w' ⟨vb, vo, none⟩ (flatC yv) (fun j v hj => by rw [hw]; exact hvs j v hj)
  rw [hvsl] at this
  rw [hs0]
  simpa [Builtin.firstCells] using this
 have hc63 : c ≤ 9223372036854775807 := by unfold maxLen at hm; omega
 have hzl : ∀ k, (Builtin.zeroCells insZ.cells k).size = k * 4 := fun k => by simp [Builtin.zeroCells, insZ, Value.cells]
 by_cases hc0 : c = 0
 ·subst hc0
  have hn0 : rows = [] := List.eq_nil_of_length_eq_zero (by omega)
  subst hn0
  have hi0' : i = 0 := by simpa using hi
  subst hi0'
  have hgb : gblock 0 (.slice base 0 0) = none := by unfold gblock; cases base <;> simp
  simp only [List.length_nil] at hgb ⊢
  rw [hgb]
  have hG := grownCap_ge w 1 0 130
  have hG2 := grownCap_le_maxLen w 1 0 130 (by unfold maxLen; omega)
  have hrun : ∀ ty, _ := fun ty => run_append_new (ty := ty) (base := base) (sLen := 0) (sCap := 0) (m := 1) (olds := []) Tryd.underlying55 (by kernel_rfl : srcT Tryd.prog 55 = true) hi0 hz0 hxl (hxf w.drew fun _ => rfl) (by cases base <;> simp [Builtin.firstCells, loadCells, loadCellsFrom]) (by omega) (by omega) (growslice_fits (by omega) (by rw [hb0]; omega))
  refine (ins_end base 0 0 _ c2 w _ _ (by omega) (Nat.le_refl _) hrun).mono ?_
  rintro en w1 ⟨rfl, rfl⟩
  refine ins_fin (n := 0) hsz (ys := []) (yv := yv) rfl (Nat.zero_le _) hl.lt (by simp [RL]) v1' (by simp) v2 hfr hfv (.inr (Nat.le_refl _)) (heap_alloc_new w.drew _) ?_ (by omega) hG2 ?_ (by simpa using hone) rfl rfl rfl (dle_alloc w _) (size_alloc' w _) (fun k hk _ => heap_alloc_old w.drew _ hk)
  ·simp only [Array.size_append, List.size_toArray, hzl, hvsl, List.length_nil, Nat.zero_add]
   omega
  ·simp only [Array.toList_append, List.take_nil, List.drop_nil, List.append_nil, List.nil_append]
   rw [show (0 + 1) * 4 = (flatC yv).length from by rw [hvsl], List.take_left]
 ·rcases hrow with ⟨_, h⟩ | ⟨g, o, k, rfl, hb⟩
  ·exact absurd h hc0
  have hgb : gblock 0 (.slice (some ⟨g, o, none⟩) rows.length c) = some g := by unfold gblock; simp; omega
  obtain ⟨⟨hgl, hnl⟩, n', cap', cur, sz', q1, q2, q3, q4, q5⟩ := hown g hgb
  simp only [Value.slice.injEq, Option.some.injEq, Addr.mk.injEq] at q1
  obtain ⟨⟨_, rfl, _⟩, rfl, rfl⟩ := q1
  have hss : sz' = 4 := by
   have : sizeT Tryd.prog 130 = some sz' := q3
   rw [hsz] at this; cases this; rfl
  subst hss
  change w.heap[g]? = some (.cells cur 130 (0, 0)) at q2
  obtain ⟨ys, y1, y2, y3⟩ := hb.vals
  have hylen : ys.length = rows.length := y1.length.symm
  have y2' : ∀ y ∈ ys, y.cells.size = 4 := by
   by_cases hne : rows = []
   ·subst hne
    have : ys = [] := List.eq_nil_of_length_eq_zero (by simpa using hylen)
    subst this; simp
   ·obtain ⟨r', hr'⟩ := List.exists_mem_of_ne_nil rows hne
    have := hb.size hro hr'
    intro y hy
    rw [y2 y hy]; omega
  have hcur := flatC_cur q2 y2' y3
  rw [hylen] at hcur
  have honeY : ∀ v ∈ flatC ys, v.oneCell' = true := fun v hv => by
   obtain ⟨j, hj⟩ := List.mem_iff_getElem?.1 hv
   exact (y3 j v hj).2
  have hia : i ≤ ys.length := by omega
  obtain ⟨s1, s2⟩ := flatC_split y2' hia
  have hcl : rows.length * 4 ≤ cur.size := by rw [q4]; exact Nat.mul_le_mul_right _ hle
  have hone3 : ∀ z ∈ flatC (ys.take i ++ yv ++ ys.drop i), z.oneCell' = true := by
   intro z hz
   rw [flatC_append, flatC_append, s1, s2] at hz
   simp only [List.mem_append] at hz
   rcases hz with (hz | hz) | hz
   ·exact honeY z (List.mem_of_mem_take hz)
   ·exact hone z hz
   ·exact honeY z (List.mem_of_mem_drop hz)
  have hgw : g < w.heap.size := (Array.getElem?_eq_some_iff.1 q2).1
  have e1 : flatC (ys.take i) = cur.toList.take (i * 4) := by
   rw [s1, hcur, List.take_take, Nat.min_eq_left (Nat.mul_le_mul_right _ hi)]
  have e2 : flatC (ys.drop i) = (cur.toList.drop (i * 4)).take ((rows.length - i) * 4) := by
   rw [s2, hcur, List.drop_take, Nat.sub_mul]
  have hi5 : i * 4 ≤ rows.length * 4 := Nat.mul_le_mul_right _ hi
  have hct : cur.toList.length = cur.size := Array.length_toList
  have hlt5 : (flatC (ys.take i)).length = i * 4 := by rw [e1, List.length_take, hct]; omega
  have hlt6 : (flatC (ys.drop i)).length = (rows.length - i) * 4 := by rw [e2, List.length_take, List.length_drop, hct]; omega
  rw [hgb]
  have hvg := hvne g hgb
  have hoseg : ∀ v ∈ (cur.toList.drop (i * 4)).take ((rows.length - i) * 4), v.oneCell' = true := fun v hv => by
   rw [← e2, s2] at hv
   exact honeY v (List.mem_of_mem_drop hv)
  have hall : flatC (ys.take i ++ yv ++ ys.drop i) = cur.toList.take (i * 4) ++ flatC yv ++ (cur.toList.drop (i * 4)).take ((rows.length - i) * 4) := by rw [flatC_append, flatC_append, e1, e2]
  have hall5 : (cur.toList.take (i * 4) ++ flatC yv ++ (cur.toList.drop (i * 4)).take ((rows.length - i) * 4)).length = (rows.length + 1) * 4 := by
   rw [← e1, ← e2, List.length_append, List.length_append, hlt5, hlt6, hvsl]; omega
  generalize hn : rows.length = n at *
  by_cases hin : i = n
  ·subst hin
   have hseg0 : (cur.toList.drop (i * 4)).take ((i - i) * 4) = [] := by simp
   rw [hseg0, List.append_nil] at hall hall5
   by_cases hroom : i + 1 ≤ c
   ·have hrun : ∀ ty, _ := fun ty => run_append_in (ty := ty) (g := g) (sLen := i) (sCap := c) (m := 1) Tryd.underlying55 (by kernel_rfl : srcT Tryd.prog 55 = true) hi0 q2 hxl (hxf w fun _ => rfl) hone hroom (by rw [hs0, hvsl, q4]; have := Nat.mul_le_mul_right 4 hroom; omega)
    refine (ins_end _ i c _ c2 w _ _ hc63 hle hrun).mono ?_
    rintro en w1 ⟨rfl, rfl⟩
    refine ins_fin hsz hn.symm hi hl.lt y1 v1' y2' v2 hfr hfv (.inl rfl) (setRow_heap w g cur _ 130 (0, 0) q2) ?_ hroom hm ?_ hone3 rfl rfl rfl (DLE.of_eq rfl) (by rw [size_setRow']; exact Nat.le_refl _) (fun k _ hk => setRow_other w g k _ (fun e => hk (by rw [e])))
    ·have := Nat.mul_le_mul_right 4 hroom
     simp only [List.size_toArray, List.length_append, List.length_take, List.length_drop, Array.length_toList, hs0, hvsl]
     omega
    ·rw [hall, hs0, ← hall5]
     exact List.take_left
   ·have hG := grownCap_ge w (i + 1) c 130
    have hG2 := grownCap_le_maxLen w (i + 1) c 130 (by unfold maxLen; omega)
    have hold : (Builtin.firstCells i0.size i (.slice (some ⟨g, 0, none⟩) i c)).run Tryd.prog w.drew = .ok (cur.toList.take (i * 4)).toArray w.drew := by
     rw [hs0]
     have hl' : (cur.toList.take (i * 4)).length = i * 4 := by rw [← e1]; exact hlt5
     have := run_loadCells_list (P := Tryd.prog) w.drew ⟨g, 0, none⟩ (cur.toList.take (i * 4)) (fun j v hj => by
      rw [List.getElem?_take] at hj
      split at hj
      ·rw [Addr.add_none, Nat.zero_add, show ∀ x, w.drew.cell? x = w.cell? x from fun _ => rfl, cell_of q2, ← Array.getElem?_toList]
       exact hj
      ·cases hj)
     rw [hl'] at this
     simpa [Builtin.firstCells] using this
    have hrun : ∀ ty, _ := fun ty => run_append_new (ty := ty) (base := some ⟨g, 0, none⟩) (sLen := i) (sCap := c) (m := 1) (olds := cur.toList.take (i * 4)) Tryd.underlying55 (by kernel_rfl : srcT Tryd.prog 55 = true) hi0 hz0 hxl (hxf w.drew fun _ => rfl) hold (by omega) (by omega) (growslice_fits (by omega) (by rw [hb0]; exact hbig))
    refine (ins_end _ i c _ c2 w _ _ hc63 hle hrun).mono ?_
    rintro en w1 ⟨rfl, rfl⟩
    refine ins_fin hsz hn.symm hi hl.lt y1 v1' y2' v2 hfr hfv (.inr (Nat.le_refl _)) (heap_alloc_new w.drew _) ?_ (by omega) hG2 ?_ hone3 rfl rfl rfl (dle_alloc w _) (size_alloc' w _) (fun k hk _ => heap_alloc_old w.drew _ hk)
    ·rw [← e1]
     simp only [Array.size_append, List.size_toArray, hzl, hvsl, hlt5]
     omega
    ·rw [hall, ← hall5]
     simp only [Array.toList_append]
     exact List.take_left
  ·have hlt' : i < n := by omega
   by_cases hroom : n + 1 ≤ c
   ·have hm5 := Nat.mul_le_mul_right 4 hroom
    obtain ⟨cur1, hc1⟩ : ∃ cur1, cur1 = (cur.toList.take ((i + 1) * 4) ++ (cur.toList.drop (i * 4)).take ((n - i) * 4) ++ cur.toList.drop ((i + 1) * 4 + (n - i) * 4)).toArray := ⟨_, rfl⟩
    obtain ⟨cur2, hc2⟩ : ∃ cur2, cur2 = (cur1.toList.take (i * 4) ++ flatC yv ++ cur1.toList.drop (i * 4 + 4)).toArray := ⟨_, rfl⟩
    refine (ins_shift g n c i _ c2 cur cura ta fa (flatC yv) w hlt' hroom hc63 q2 q4 hvg ha hna hvsl hvs hoseg hone cur1 cur2 hc1 hc2).mono ?_
    rintro en w1 ⟨rfl, rfl⟩
    have hA : cur1.toList.take (i * 4) = cur.toList.take (i * 4) := by
     rw [hc1, List.append_assoc, List.take_append_of_le_length (by rw [List.length_take, Array.length_toList]; omega), List.take_take, Nat.min_eq_left (by omega)]
    have hB : cur1.toList.drop (i * 4 + 4) = (cur.toList.drop (i * 4)).take ((n - i) * 4) ++ cur.toList.drop ((i + 1) * 4 + (n - i) * 4) := by
     rw [hc1, List.append_assoc]
     have hl' : (cur.toList.take ((i + 1) * 4)).length = i * 4 + 4 := by rw [List.length_take, Array.length_toList]; omega
     rw [← hl', List.drop_left]
    have hC : cur2.toList = (cur.toList.take (i * 4) ++ flatC yv ++ (cur.toList.drop (i * 4)).take ((n - i) * 4)) ++ cur.toList.drop ((i + 1) * 4 + (n - i) * 4) := by
     rw [hc2, hA, hB]
     simp only [List.append_assoc]
    refine ins_fin hsz hn.symm hi hl.lt y1 v1' y2' v2 hfr hfv (.inl rfl) (setRow_heap _ g cur1 cur2 130 (0, 0) (setRow_heap w.drew g cur cur1 130 (0, 0) q2)) ?_ hroom hm ?_ hone3 rfl rfl rfl (dle_drew w) (by rw [size_setRow', size_setRow']; exact Nat.le_refl _) (fun k _ hk => by
     have hkg : k ≠ g := fun e => hk (by rw [e])
     rw [setRow_other _ g k _ hkg, setRow_other _ g k _ hkg]; rfl)
    ·have := congrArg List.length hC
     rw [List.length_append, hall5, List.length_drop, Array.length_toList, Array.length_toList] at this
     omega
    ·rw [hall, hC, ← hall5]
     exact List.take_left
   ·have hm5 : n * 4 ≤ c * 4 := Nat.mul_le_mul_right 4 hle
    obtain ⟨G, hG⟩ : ∃ G, G = grownCap w (n + 1) c 130 := ⟨_, rfl⟩
    obtain ⟨row, hrow⟩ : ∃ row, row = (cur.toList.take (i * 4)).toArray ++ Builtin.zeroCells insZ.cells (n + 1 - i) ++ Builtin.zeroCells insZ.cells (G - (n + 1)) := ⟨_, rfl⟩
    obtain ⟨row2, hr2⟩ : ∃ row2, row2 = (row.toList.take (i * 4) ++ flatC yv ++ row.toList.drop (i * 4 + 4)).toArray := ⟨_, rfl⟩
    obtain ⟨row3, hr3⟩ : ∃ row3, row3 = (row2.toList.take ((i + 1) * 4) ++ (cur.toList.drop (i * 4)).take ((n - i) * 4) ++ row2.toList.drop ((i + 1) * 4 + (n - i) * 4)).toArray := ⟨_, rfl⟩
    refine (ins_grow g n c i _ c2 cur (flatC yv) w hlt' hle (by omega) hbig q2 q4 hvbw hvsl hvs hoseg hone row row2 row3 G hG hrow hr2 hr3).mono ?_
    rintro en w1 ⟨rfl, rfl⟩
    have hGn : n + 1 ≤ G := by rw [hG]; exact grownCap_ge w _ _ _
    have hGm : G ≤ maxLen := by rw [hG]; exact grownCap_le_maxLen w (n + 1) c 130 (by unfold maxLen; omega)
    have hrs : row.size = G * 4 := by
     rw [hrow, ← e1]
     simp only [Array.size_append, List.size_toArray, hzl, hlt5]
     omega
    have hA : row.toList.take (i * 4) = cur.toList.take (i * 4) := by
     rw [hrow, ← e1]
     simp only [Array.toList_append, List.append_assoc]
     rw [← hlt5, List.take_left]
    have hA2 : row2.toList.take ((i + 1) * 4) = cur.toList.take (i * 4) ++ flatC yv := by
     rw [hr2, hA]
     have : (cur.toList.take (i * 4) ++ flatC yv).length = (i + 1) * 4 := by rw [← e1, List.length_append, hlt5, hvsl]; omega
     show ((cur.toList.take (i * 4) ++ flatC yv) ++ row.toList.drop (i * 4 + 4)).take ((i + 1) * 4) = _
     rw [← this, List.take_left]
    have hr2s : row2.size = G * 4 := by
     rw [hr2, hA, ← e1]
     simp only [List.size_toArray, List.length_append, List.length_drop, Array.length_toList, hlt5, hvsl, hrs]
     omega
    have hC : row3.toList = (cur.toList.take (i * 4) ++ flatC yv ++ (cur.toList.drop (i * 4)).take ((n - i) * 4)) ++ row2.toList.drop ((i + 1) * 4 + (n - i) * 4) := by
     rw [hr3, hA2]
    have hN1 : (w.drew.alloc (.cells row 130)).heap[w.heap.size]? = some (.cells row 130 (0, 0)) := heap_alloc_new w.drew _
    refine ins_fin hsz hn.symm hi hl.lt y1 v1' y2' v2 hfr hfv (.inr (Nat.le_refl _)) (setRow_heap _ w.heap.size row2 row3 130 (0, 0) (setRow_heap (w.drew.alloc (.cells row 130)) w.heap.size row row2 130 (0, 0) hN1)) ?_ hGn hGm ?_ hone3 rfl rfl rfl ((dle_alloc w (.cells row 130)).trans (dle_drew ((w.drew.alloc (.cells row 130)).setRow w.heap.size row2))) (by rw [size_setRow']; show _ ≤ ((w.drew.alloc (.cells row 130)).setRow w.heap.size row2).heap.size; rw [size_setRow']; exact size_alloc' w _) (fun k hk _ => by
     have hkg : k ≠ w.heap.size := by omega
     rw [setRow_other _ w.heap.size k _ hkg]
     show ((w.drew.alloc (.cells row 130)).setRow w.heap.size row2).heap[k]? = _
     rw [setRow_other _ w.heap.size k _ hkg, heap_alloc_old w.drew _ hk]; rfl)
    ·have := congrArg List.length hC
     rw [List.length_append, hall5, List.length_drop, Array.length_toList, Array.length_toList, hr2s] at this
     omega
    ·rw [hall, hC, ← hall5]
     exact List.take_left
end Go.Proofs.YtjcbpfhlgebgdaaDoor
