import Derived.Test.YtjcbpfhlgebgdaaE13M
set_option linter.unusedSimpArgs false
set_option linter.unusedVariables false
namespace Go.Eng
open Go.RowKit
theorem zeroCells_rep (z : Value) (n : Nat) : (Builtin.zeroCells z.cells n).toList = flatC (List.replicate n z) := by
  refine List.ext_getElem? fun j => ?_
  rw [flatC_rep, Array.getElem?_toList]
  unfold Builtin.zeroCells
  rw [Array.getElem?_map, Array.getElem?_range]
  split
  · rename_i h
    simp only [Option.map_some]
    have hp : 0 < z.cells.size := by
      rcases Nat.eq_zero_or_pos z.cells.size with q | q
      · rw [q] at h; omega
      · exact q
    have hlt : j % z.cells.size < z.cells.size := Nat.mod_lt _ hp
    rw [Array.getElem?_eq_getElem hlt, getElem!_pos z.cells _ hlt]
  · rfl
theorem run_clearN {P : Program} {w : World} {t ty e te : TypeId} {g o n c sz : Nat} {i : TypeInfo} {z : Value} {cur : Array Value} (ht : P.underlying t = some (.slice e)) (hi : P.info? e = some i) (hz : i.zero = some z) (hzc : z.cells.size = sz) (h1 : ∀ v ∈ z.cells.toList, v.oneCell' = true)
    (hg : w.heap[g]? = some (.cells cur te (0, 0))) (hn : 0 < n) (hfit : o + n * sz ≤ cur.size) :
    (Builtin.clear_ #[t] ty #[.slice (some ⟨g, o, none⟩) n c]).run P w = .ok (.tuple #[]) (w.setRow g (cur.toList.take o ++ flatC (List.replicate n z) ++ cur.toList.drop (o + n * sz)).toArray) := by
  have hl : (flatC (List.replicate n z)).length = n * sz := by
    rw [flatC_length (k := sz) (by intro y hy; rw [List.mem_replicate] at hy; rw [hy.2]; exact hzc)]; simp
  have hst := run_storeCells_at P g o te (flatC (List.replicate n z)) 0 cur w hg (by rw [hl]; simpa using hfit) (fun v hv => by
    obtain ⟨j, hj⟩ := List.mem_iff_getElem?.1 hv
    rw [flatC_rep] at hj
    split at hj
    · exact h1 v (by simpa using Array.mem_of_getElem? hj)
    · cases hj)
  rw [hl] at hst
  simp only [Nat.add_zero] at hst
  obtain ⟨m, rfl⟩ : ∃ m, n = m + 1 := ⟨n - 1, by omega⟩
  have hzr := zeroCells_rep z (m + 1)
  simp [Builtin.clear_, run_underlying ht, zeroValue, typeInfo, hi, hz, hzr, hst]
section
variable {P : Program} {n' : Nat} {F : Fr} {st : St} {a : Act} {w : World} {pr : Nat → Nat → Prop} {lam : Nat → Option Nat}
theorem setBoxes_nil (st : St) : st.setBoxes [] [] = st := rfl
theorem opok_cut {o : Oper} {K : St → Prop} {t e : TypeId} {ss tk tn sz : Nat} {y : Operand} {rows : List V} {k : IntKind} {i : Int} (ho : o.op = .slice t (.tmp ss) none (some y) none) (hs : st.env ss = .list rows) (htk : st.tok ss = some (tk, e)) (hcl : tcl tk = 0)
    (hy : st.eval y = .int k i) (ht : P.underlying t = some (.slice e)) (hsz : sizeT P e = some sz) (hr : rowsOK sz rows) (hfr : V.flatL rows = true) (h0 : 0 ≤ i) (h1 : i ≤ rows.length) (hbf : ∀ i B, st.box i = some B → V.flatL B.cells = true) (htn : tcl tn = 0)
    {st1 : St} (hw1 : ∀ {F : Fr} {a : Act} {w : World} {pr : Nat → Nat → Prop} {lam : Nat → Option Nat}, SRel P F (st.dropped tk) a w pr lam → SRel P F st1 a w pr lam) (hwt : ∀ s t e, st1.tok s = some (t, e) → (st.dropped tk).tok s = some (t, e)) (hwb : ∀ i, st1.box i = st.box i)
    (hd : ∀ d, o.dst = some d → d < n') (hk : K ((st1.clear tn).put o.dst (.list (rows.take i.toNat)) (some (tn, e)))) : OpOK P n' o st K := by
  intro F a w pr lam hF h next Q hn
  subst hF
  generalize hhb : gblock 0 (a.tmps.getD ss undef) = hb
  obtain ⟨hr00, htb00, hbb00, hmine⟩ := h.release htk hcl hbf hhb
  have hr0 := hw1 hr00
  have htb0 : ∀ s t e', st1.tok s = some (t, e') → ∀ g, gblock (tcl t) (a.tmps.getD s undef) = some g → hb ≠ some g := fun s t e' hq => htb00 s t e' (hwt s t e' hq)
  have hbb0 : ∀ i B b, st1.box i = some B → lam i = some b → hb ≠ some b := fun i B b hq => hbb00 i B b (by rw [← hwb]; exact hq)
  have hR := h.env ss
  rw [hs] at hR
  simp only [R] at hR
  obtain ⟨base, cap, hv, hc, hm, hb0⟩ := hR
  have q2 := h.eval y
  rw [hy] at q2
  simp only [R] at q2
  have hlen : (rows.take i.toNat).length = i.toNat := by simp; omega
  have hrun : (execOp a.eval o).run P w = .ok (.value (.slice base i.toNat cap)) w := by
    have e1 : a.eval (.tmp ss) = .slice base rows.length cap := hv
    have hb2 : (Instr.sliceBound (a.eval y) cap .sliceAcap).run P w = .ok i.toNat w := run_sliceBound q2 h0 rfl (by omega) _ w
    have hbs : (Instr.sliceBounds true rows.length cap none (some (a.eval y)) none).run P w = .ok (0, i.toNat, cap) w := by
      simp [Instr.sliceBounds, hb2]
    have hbase : (if cap = 0 then base else base.map (·.add (0 * sz))) = base := by
      rcases hb0 with ⟨_, _, rfl⟩ | ⟨b, o', k', rfl, _⟩
      · simp
      · simp [Addr.add_none]
    simp only [execOp, ho, e1]
    simp [Instr.sliceAt, run_underlying ht, Instr.slice, hbs, run_sizeOf hsz]
    simpa using hbase
  unfold Oper.wp
  rw [hrun, Oper.upon_value]
  have hblt : ∀ b, hb = some b → b < w.heap.size := fun b hq => by
    obtain ⟨_, n, cap', cur, sz, _, h3, _⟩ := h.own ss tk e htk b (by rw [hcl, hhb]; exact hq)
    exact (Array.getElem?_eq_some_iff.1 h3).1
  let pr' : Nat → Nat → Prop := fun b o => prM pr hb b o ∨ (hb = some b ∧ o < i.toNat * sz)
  have hleft : LeftM w pr (fun j => (([] : List Nat)[j]?).bind lam) hb w pr' := ⟨rfl, rfl, rfl, DLE.of_eq rfl, Nat.le_refl _, fun _ _ _ _ => rfl, fun b o hp hq => .inl ⟨hp, hq⟩, fun b o hp => by
    rcases hp with hp | ⟨hp, _⟩
    · exact .inl hp
    · exact .inr (.inr hp)⟩
  have hs' := hr0.calledM htb0 hbb0 hmine hblt List.nodup_nil (show boxesOK st1 [] [] from trivial) rfl (outs := []) (by simp) (lam' := fun j => (([] : List Nat)[j]?).bind lam) (fun j => rfl) (fun j B hB => by simp at hB) hleft
  rw [setBoxes_nil] at hs'
  have hgb : gblock 0 (.slice base i.toNat cap) = hb ∨ gblock 0 (.slice base i.toNat cap) = none := by
    rw [← hhb, hv]
    unfold gblock
    rcases base with _ | ⟨b, o', v⟩
    · exact .inr rfl
    · simp only
      split <;> split <;> first | exact .inl rfl | exact .inr rfl | skip
      rename_i c1 c2
      exfalso
      apply c2
      rcases c1 with c1 | c1
      · exact .inl c1
      · exact absurd c1.1 (by decide)
  refine hn _ _ w pr' lam hk ((hs'.clear tn).put hd ?_ ?_)
  · simp only [R]
    refine ⟨base, cap, by rw [hlen], by rw [hlen]; omega, hm, ?_⟩
    by_cases hne : rows = []
    · subst hne
      rcases hb0 with hb0 | ⟨b, o', k', rfl, _⟩
      · exact .inl ⟨by simp, hb0.2⟩
      · exact .inr ⟨b, o', k', rfl, by simp [RR]⟩
    · obtain ⟨g, cap', cur, hv', hc', hm', hg, hN, hcu, hcs, hrr, hpr⟩ := h.own0 hs htk hcl hsz hr hne
      rw [hv] at hv'
      cases hv'
      refine .inr ⟨g, 0, sz, rfl, ?_⟩
      refine RR.of_get fun j r hj => ?_
      rw [List.getElem?_take] at hj
      split at hj
      · rename_i hjl
        obtain ⟨z, p1, p2, p3⟩ := hrr.get j r hj
        refine ⟨z, R.flat r z (flatL_mem hfr r (List.mem_of_getElem? hj)) p1, p2, fun q u hq => ?_⟩
        obtain ⟨p4, p5⟩ := p3 q u hq
        refine ⟨⟨p4.1, .inr ⟨?_, ?_⟩⟩, p5⟩
        · rw [← hhb]; exact hg
        · have hqs : q < sz := by
            have := (Array.getElem?_eq_some_iff.1 hq).1
            omega
          have : (j + 1) * sz ≤ i.toNat * sz := Nat.mul_le_mul_right _ (by omega)
          rw [Nat.add_mul, Nat.one_mul] at this
          omega
      · cases hj
  · refine ⟨fun g hg => ?_, fun s t' e' g hs1 h1 h2 => ?_, fun j B b hB hl hg => ?_, fun s e' hs1 => absurd rfl (clear_tok hs1).2.1, (fun hc' => by rw [htn] at hc'; cases hc'), (fun s e' b o g hs1 => absurd rfl (clear_tok hs1).2.2), fun s u e' b o g hu => ?_⟩
    · rw [htn] at hg
      have hg' : hb = some g := by
        rcases hgb with q | q
        · rw [← q]; exact hg
        · rw [q] at hg; cases hg
      refine ⟨hmine g hg', ?_⟩
      obtain ⟨_, n, cap', cur, sz', r1, r2, r3, r4, _⟩ := h.own ss tk e htk g (by rw [hcl, hhb]; exact hg')
      rw [hv] at r1
      simp only [Value.slice.injEq] at r1
      obtain ⟨rfl, _, rfl⟩ := r1
      have hss : sz' = sz := by
        have : sizeT P e = some sz' := r3
        rw [hsz] at this; cases this; rfl
      subst hss
      refine ⟨i.toNat, cap, cur, sz', rfl, r2, r3, r4, fun o' ho' hp => ?_⟩
      rcases hp with hp | ⟨_, hp⟩
      · exact hp.2 hg'
      · omega
    · exfalso
      rw [htn] at h2
      have hg' : hb = some g := by
        rcases hgb with q | q
        · rw [← q]; exact h2
        · rw [q] at h2; cases h2
      exact htb0 s t' e' (clear_tok hs1).1 g h1 hg'
    · rw [htn] at hg
      have hg' : hb = some b := by
        rcases hgb with q | q
        · rw [← q]; exact hg
        · rw [q] at hg; cases hg
      exact hbb0 j B b hB hl hg'
    · exfalso
      have : tcl tn = 0 := htn
      rw [hu] at this
      unfold tcl at this
      omega
theorem clr2_ok {o2 o3 : Oper} {K : St → Prop} {t e : TypeId} {ss tk sz c : Nat} {y : Operand} {rows : List V} {zv : V} {k : IntKind} {i : Int} (ho : o2.op = .slice t (.tmp ss) (some y) none none) (hc2 : o2.dst = some c) (hc : c < n')
    (ho3 : o3.op = .call { callee := .builtin .clear, args := #[.tmp c], argTypes := #[t] }) (hd3 : o3.dst = none) (hs : st.env ss = .list rows) (htk : st.tok ss = some (tk, e)) (hcl : tcl tk = 0)
    (hy : st.eval y = .int k i) (ht : P.underlying t = some (.slice e)) (hsz : sizeT P e = some sz) (hz : zeroT P e = some zv) (hzs : zv.csize = some sz) (hzf : zv.flat = true) (hr : rowsOK sz rows) (hfr : V.flatL rows = true) (h0 : 0 ≤ i) (h1 : i < rows.length) (hbf : ∀ i B, st.box i = some B → V.flatL B.cells = true)
    {st1 : St} (hw1 : ∀ {F : Fr} {a : Act} {w : World} {pr : Nat → Nat → Prop} {lam : Nat → Option Nat}, SRel P F (st.changed tk (rows.take i.toNat ++ List.replicate (rows.length - i.toNat) zv)) a w pr lam → SRel P F st1 a w pr lam)
    (hk : K (st1.put (some c) .any none)) (hF : F.nt = n') (h : SRel P F st a w pr lam) (next : Act → World → Prop) (Q : Exit → Act → World → Prop)
    (hn : ∀ st' a' w' pr' lam', K st' → SRel P F st' a' w' pr' lam' → next a' w') : o2.wp P a w (fun a' w' => o3.wp P a' w' next Q) Q := by
  subst hF
  have hne : rows ≠ [] := fun q => by subst q; simp at h1; omega
  obtain ⟨g, cap, cur, hvs, hcp, hm, hg, hN, hgb, hcs, hrr, hpr⟩ := h.own0 hs htk hcl hsz hr hne
  obtain ⟨ti, z, i1, i2, i3⟩ := zeroT_spec hz
  have hzR : ∀ w' : World, R ⟨w', pr, lam⟩ zv z := fun w' => by have := R_constV ⟨w', pr, lam⟩ z; rwa [i3] at this
  have hzc : z.cells.size = sz := (hzR w).csize hzs
  have hz1 := ((hzR w).cells hzs).2
  obtain ⟨n, hin⟩ : ∃ n : Nat, i = n := ⟨i.toNat, by omega⟩
  subst hin
  have hnt : (n : Int).toNat = n := by omega
  rw [hnt] at hw1
  have hnlt : n < rows.length := by omega
  have hbound : n * sz + (rows.length - n) * sz = rows.length * sz := by rw [← Nat.add_mul]; congr 1; omega
  have hcapb : rows.length * sz ≤ cap * sz := Nat.mul_le_mul_right _ hcp
  have q2 := h.eval y
  rw [hy] at q2
  simp only [R] at q2
  have hrun : (execOp a.eval o2).run P w = .ok (.value (.slice (some ⟨g, n * sz, none⟩) (rows.length - n) (cap - n))) w := by
    have e1 : a.eval (.tmp ss) = .slice (some ⟨g, 0, none⟩) rows.length cap := hvs
    have hb1 : (Instr.sliceBound (a.eval y) rows.length .sliceB).run P w = .ok n w := run_sliceBound q2 h0 hnt (by omega) _ w
    have hbs : (Instr.sliceBounds true rows.length cap (some (a.eval y)) none none).run P w = .ok (n, rows.length, cap) w := by
      simp [Instr.sliceBounds, hb1]
    have hcn : ¬ cap = n := by omega
    simp only [execOp, ho, e1]
    simp [Instr.sliceAt, run_underlying ht, Instr.slice, hbs, run_sizeOf hsz, hcn, Addr.add_none]
  unfold Oper.wp
  rw [hrun, Oper.upon_value, hc2]
  have hev : (a.put (some c) (.slice (some ⟨g, n * sz, none⟩) (rows.length - n) (cap - n))).eval (.tmp c) = .slice (some ⟨g, n * sz, none⟩) (rows.length - n) (cap - n) := by
    have : c < a.tmps.size := by rw [h.size]; exact hc
    simp [Act.put, Act.eval, this]
  have hclr := run_clearN (P := P) (w := w) (t := t) (ty := o3.type) (e := e) (te := e) (g := g) (o := n * sz) (n := rows.length - n) (c := cap - n) (sz := sz) (i := ti) (z := z) (cur := cur) ht i1 i2 hzc hz1 hgb (by omega) (by rw [hcs]; omega)
  rw [hbound] at hclr
  have hex : (execOp (a.put (some c) (.slice (some ⟨g, n * sz, none⟩) (rows.length - n) (cap - n))).eval o3).run P w = .ok (.value (.tuple #[])) (w.setRow g (cur.toList.take (n * sz) ++ flatC (List.replicate (rows.length - n) z) ++ cur.toList.drop (rows.length * sz)).toArray) := by
    simp only [execOp, ho3, resolve, invoke, builtin, Sem.run_bind, Sem.run_pure, Result.andThen_ok, List.map_toArray, List.map_cons, List.map_nil, hev, hclr]
  rw [hex, Oper.upon_value, hd3]
  generalize hcur' : (cur.toList.take (n * sz) ++ flatC (List.replicate (rows.length - n) z) ++ cur.toList.drop (rows.length * sz)).toArray = cur'
  have hfl : (flatC (List.replicate (rows.length - n) z)).length = (rows.length - n) * sz := by
    rw [flatC_length (k := sz) (by intro y hy; rw [List.mem_replicate] at hy; rw [hy.2]; exact hzc)]; simp
  have hget : ∀ q : Nat, cur'[q]? = if q < n * sz then cur[q]? else if q < rows.length * sz then (flatC (List.replicate (rows.length - n) z))[q - n * sz]? else cur[q]? := by
    intro q
    rw [← hcur']
    have hmin : min (n * sz) cur.size = n * sz := by omega
    simp only [List.getElem?_toArray, List.getElem?_append, List.length_append, List.length_take, Array.length_toList, hmin, List.getElem?_take, List.getElem?_drop, Array.getElem?_toList, hfl, hbound]
    by_cases c1 : q < n * sz
    · have : q < rows.length * sz := by omega
      simp [c1, this]
    · by_cases c2 : q < rows.length * sz
      · simp [c1, c2]
      · simp only [c1, c2, if_false]
        congr 1; omega
  have hsize : cur'.size = cur.size := by
    rw [← hcur']
    simp only [List.size_toArray, List.length_append, List.length_take, Array.length_toList, List.length_drop, hfl]
    omega
  have hset : (w.setRow g cur').heap[g]? = some (.cells cur' e (0, 0)) := setRow_heap w g cur cur' e (0, 0) hgb
  have hcell : ∀ q, (w.setRow g cur').cell? ⟨g, q, none⟩ = cur'[q]? := fun q => cell_setRow_same w g q cur cur' e (0, 0) hgb
  have hcell0 : ∀ q, w.cell? ⟨g, q, none⟩ = cur[q]? := fun q => by simp [World.cell?, hgb]
  have hch := h.changed (rows' := rows.take n ++ List.replicate (rows.length - n) zv) (sz := sz) htk hcl hvs hg hN (Swap.setRow w g cur') hgb hset hsize hbf (by simp; omega) hcp hm ?_
  · exact hn _ _ _ pr lam hk ((hw1 hch).put (fun d hd => by cases hd; exact hc) (by simp [R]) trivial)
  refine RR.of_get fun j r hj => ?_
  by_cases hjn : j < n
  · rw [List.getElem?_append_left (by simp; omega), List.getElem?_take, if_pos hjn] at hj
    obtain ⟨y0, p1, p2, p3⟩ := hrr.get j r hj
    refine ⟨y0, R.flat r y0 (flatL_mem hfr r (List.mem_of_getElem? hj)) p1, p2, fun q u hq => ?_⟩
    obtain ⟨p4, p5⟩ := p3 q u hq
    refine ⟨⟨?_, p4.2⟩, p5⟩
    have hqs : q < sz := by
      have := (Array.getElem?_eq_some_iff.1 hq).1
      omega
    have hle : (j + 1) * sz ≤ n * sz := Nat.mul_le_mul_right _ (by omega)
    rw [Nat.add_mul, Nat.one_mul] at hle
    show (w.setRow g cur').cell? _ = _
    rw [hcell, hget, if_pos (by omega)]
    have := p4.1
    change w.cell? _ = _ at this
    rwa [hcell0] at this
  · rw [List.getElem?_append_right (by simp; omega)] at hj
    simp only [List.length_take, Nat.min_eq_left (Nat.le_of_lt hnlt)] at hj
    rw [List.getElem?_replicate] at hj
    split at hj
    · rename_i hjl
      cases hj
      have hjlen : j < rows.length := by omega
      obtain ⟨y0, p1, p2, p3⟩ := hrr.get j _ (List.getElem?_eq_getElem hjlen)
      refine ⟨z, hzR _, hzc, fun q u hq => ?_⟩
      have hqs : q < sz := by
        have := (Array.getElem?_eq_some_iff.1 hq).1
        omega
      obtain ⟨u0, hu0⟩ : ∃ u0, y0.cells[q]? = some u0 := ⟨_, Array.getElem?_eq_getElem (by omega)⟩
      obtain ⟨p4, _⟩ := p3 q u0 hu0
      refine ⟨⟨?_, p4.2⟩, hz1 u (by simpa using Array.mem_of_getElem? hq)⟩
      have hle : (j + 1) * sz ≤ rows.length * sz := Nat.mul_le_mul_right _ (by omega)
      rw [Nat.add_mul, Nat.one_mul] at hle
      have hge : n * sz ≤ j * sz := Nat.mul_le_mul_right _ (by omega)
      show (w.setRow g cur').cell? _ = _
      rw [Nat.zero_add, hcell, hget, if_neg (by omega), if_pos (by omega), flatC_rep, hzc]
      have e1 : j * sz + q - n * sz = (j - n) * sz + q := by
        rw [Nat.sub_mul]; omega
      rw [e1, Nat.mul_comm (j - n) sz, Nat.mul_add_mod, Nat.mod_eq_of_lt hqs, if_pos]
      · simpa using hq
      · have h3 : (j - n + 1) * sz ≤ (rows.length - n) * sz := Nat.mul_le_mul_right _ (by omega)
        rw [Nat.add_mul, Nat.one_mul, Nat.mul_comm] at h3
        omega
    · cases hj
def isClr (c : Nat) (t : TypeId) : Op → Bool
  | .call { callee := .builtin .clear, args := xs, argTypes := ts } => (match xs.toList, ts.toList with | [.tmp c'], [t'] => Nat.beq c' c && Nat.beq t' t | _, _ => false)
  | _ => false
theorem isClr_spec {c : Nat} {t : TypeId} {o : Op} (h : isClr c t o = true) : o = .call { callee := .builtin .clear, args := #[.tmp c], argTypes := #[t] } := by
  unfold isClr at h
  split at h
  · rename_i xs ts
    split at h
    · rename_i c' t' h1 h2
      simp only [Bool.and_eq_true] at h
      have e1 := Nat.eq_of_beq_eq_true h.1
      have e2 := Nat.eq_of_beq_eq_true h.2
      subst e1 e2
      have a1 : xs = #[.tmp c'] := by rw [← Array.toList_inj]; exact h1
      have a2 : ts = #[t'] := by rw [← Array.toList_inj]; exact h2
      rw [a1, a2]
    · cases h
  · cases h
def clr2VC (P : Program) (o2 o3 : Oper) (st : St) (K : St → Prop) : Prop := (o2.guard = none ∧ o3.guard = none) ∧ (match o2.op, o2.dst, o3.dst with
  | .slice t (.tmp ss) (some y) none none, some c, none => isClr c t o3.op = true ∧ (match st.env ss, st.tok ss, st.eval y with
    | .list rows, some (tk, e), .int _ i => tcl tk = 0 ∧ sliceT P t = some e ∧ (match sizeT P e, zeroT P e with
      | some sz, some zv => (zv.csize = some sz ∧ zv.flat = true ∧ rowsOK sz rows ∧ V.flatL rows = true ∧ 0 ≤ i ∧ i < rows.length) ∧ (∀ i B, st.box i = some B → V.flatL B.cells = true) ∧
        ∃ st1, (∀ (F : Fr) (a : Act) (w : World) (pr : Nat → Nat → Prop) (lam : Nat → Option Nat), SRel P F (st.changed tk (rows.take i.toNat ++ List.replicate (rows.length - i.toNat) zv)) a w pr lam → SRel P F st1 a w pr lam) ∧ K (st1.put (some c) .any none)
      | _, _ => False)
    | _, _, _ => False)
  | _, _, _ => False)
def tailVC (P : Program) : List Oper → St → (St → Prop) → Prop
  | [], _, _ => False
  | o :: os, st, K => match os with
    | [] => False
    | [o3] => clr2VC P o o3 st K
    | _ => o.guard = none ∧ opVC P false o st fun st' => tailVC P os st' K
theorem wanted_none {o : Oper} {ops : Array Oper} {t : Array Value} (h : o.guard = none) : Region.wanted o (yielded ops t) = true := by unfold Region.wanted; rw [h]
theorem tailVC_sound {ops : Array Oper} {K : St → Prop} : ∀ (l : List Oper) (i : Nat) (st : St), (∀ j, l[j]? = ops[i + j]?) → l.all (dstOK n') = true → tailVC P l st K →
    ∀ (F : Fr) (a : Act) (w : World) (pr : Nat → Nat → Prop) (lam : Nat → Option Nat), F.nt = n' → SRel P F st a w pr lam → ∀ Q : Exit → Act → World → Prop,
      (∀ st' a' w' pr' lam', K st' → SRel P F st' a' w' pr' lam' → Q .normal a' w') → wpOps P ops Q (List.range' i l.length) a w
  | [], i, st, _, _, h, F, a, w, pr, lam, _, hs, Q, hn => h.elim
  | [o], i, st, _, _, h, F, a, w, pr, lam, _, hs, Q, hn => h.elim
  | [o2, o3], i, st, hl, hall, h, F, a, w, pr, lam, hF, hs, Q, hn => by
    have h0 : ops[i]? = some o2 := by simpa using (hl 0).symm
    have h1 : ops[i + 1]? = some o3 := by simpa using (hl 1).symm
    simp only [List.all_cons, Bool.and_eq_true] at hall
    unfold tailVC at h
    simp only at h
    obtain ⟨⟨g2, g3⟩, h⟩ := h
    simp only [List.length_cons, List.length_nil, List.range'_succ, List.range'_zero]
    unfold wpOps
    simp only [h0]
    rw [wanted_none g2]
    simp only [if_true]
    left
    split at h
    · rename_i t ss y c ho2 hc2 hd3
      obtain ⟨hcl, h⟩ := h
      have hcn : c < n' := dstOK_spec hall.1 c hc2
      split at h
      · rename_i rows tk e k iv he ht hy
        obtain ⟨h3, h4, h⟩ := h
        split at h
        · rename_i sz zv hsz hzv
          obtain ⟨⟨k1, k2, k3, k4, k5, k6⟩, k7, st1, k8, k9⟩ := h
          have := clr2_ok (n' := n') (Q := Q) (next := fun a' w' => Q .normal a' w') ho2 hc2 hcn (isClr_spec hcl) hd3 he ht h3 hy (sliceT_spec h4) hsz hzv k1 k2 k3 k4 k5 k6 k7 (fun q => k8 _ _ _ _ _ q) k9 hF hs hn
          refine Oper.wp_mono (fun a' w' q => ?_) this
          unfold wpOps
          simp only [h1]
          rw [wanted_none g3]
          simp only [if_true]
          exact .inl q
        · exact h.elim
      · exact h.elim
    · exact h.elim
  | o :: o1 :: o2 :: os, i, st, hl, hall, h, F, a, w, pr, lam, hF, hs, Q, hn => by
    have h0 : ops[i]? = some o := by simpa using (hl 0).symm
    have hall' := List.all_cons.symm.trans hall
    rw [List.all_cons, Bool.and_eq_true] at hall
    have hl' : ∀ j, (o1 :: o2 :: os)[j]? = ops[i + 1 + j]? := fun j => by have := hl (j + 1); simpa [Nat.add_assoc, Nat.add_comm 1 j] using this
    unfold tailVC at h
    simp only at h
    obtain ⟨hg, h⟩ := h
    rw [List.length_cons, List.range'_succ]
    simp only [wpOps, h0]
    rw [wanted_none hg]
    simp only [if_true]
    left
    exact opVC_sound hall.1 h F a w pr lam hF hs _ _ fun st' a' w' pr' lam' hk hs' => tailVC_sound (o1 :: o2 :: os) (i + 1) st' hl' hall.2 hk F a' w' pr' lam' hF hs' Q hn
theorem AWp.clr {id : Nat} {ops : Array Oper} {Q : Exit → St → Prop} (hall : ops.toList.all (dstOK n') = true) (h : tailVC P ops.toList st (Q .normal)) : AWp P n' (.region id ops false) st Q := by
  intro F a w pr lam hF hs
  refine wp_region ?_
  have := tailVC_sound (P := P) (n' := n') (ops := ops) ops.toList 0 st (by simp) hall h F a w pr lam hF hs (fun ex a' w' => ∃ st' pr' lam', Q ex st' ∧ SRel P F st' a' w' pr' lam') (fun st' a' w' pr' lam' k r => ⟨st', pr', lam', k, r⟩)
  rwa [Array.length_toList, ← List.range_eq_range'] at this
end
end Go.Eng
