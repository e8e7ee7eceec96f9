import Derived.Test.YtjcbpfhlgebgdaaE13C
set_option linter.unusedSimpArgs false
set_option linter.unusedVariables false
namespace Go.Eng
open Go.RowKit
theorem freeze_heap {w : World} {g n : Nat} {cur : Array Value} {e : TypeId} (hg : w.heap[g]? = some (.cells cur e (0, 0))) (k : Nat) :
    (w.freeze ⟨g, n, none⟩ 1).heap[k]? = if k = g then some (.cells cur e (n, n + 1)) else w.heap[k]? := by
  unfold World.freeze
  rw [if_neg (by decide)]
  simp only [Array.getElem?_modify]
  by_cases h : g = k
  · subst h; simp [hg]
  · rw [if_neg h, if_neg (fun q => h q.symm)]
section
variable {P : Program} {n' : Nat} {F : Fr} {st : St} {a : Act} {w : World} {pr : Nat → Nat → Prop} {lam : Nat → Option Nat}
theorem opok_mark {o : Oper} {K : St → Prop} {t e : TypeId} {ss tk sz : Nat} {rows : List V} (ho : o.op = .convert t t (.tmp ss)) (hs : st.env ss = .list rows) (htk : st.tok ss = some (tk, e)) (hcl : tcl tk = 0)
    (ht : P.underlying t = some (.slice e)) (he : P.underlying e = some (.int .u8)) (hsz : sizeT P e = some sz) (hr : rowsOK sz rows) (hfr : V.flatL rows = true) (hne : rows ≠ []) (hbf : ∀ i B, st.box i = some B → V.flatL B.cells = true)
    {st1 : St} (hw1 : ∀ {F : Fr} {a : Act} {w : World} {pr : Nat → Nat → Prop} {lam : Nat → Option Nat}, SRel P F (st.dropped tk) a w pr lam → SRel P F st1 a w pr lam) (hwt : ∀ s t e, st1.tok s = some (t, e) → (st.dropped tk).tok s = some (t, e)) (hwb : ∀ i, st1.box i = st.box i)
    (hd : ∀ d, o.dst = some d → d < n') (hk : K (st1.put o.dst (.list rows) none)) : OpOK P n' o st K := by
  intro F a w pr lam hF h next Q hn
  subst hF
  generalize hhb : gblock 0 (a.tmps.getD ss undef) = hb
  obtain ⟨hr00, htb00, hbb00, hmine⟩ := h.release htk hcl hbf hhb
  have hr0 := hw1 hr00
  have htb0 : ∀ s t e', st1.tok s = some (t, e') → ∀ g, gblock (tcl t) (a.tmps.getD s undef) = some g → hb ≠ some g := fun s t e' hq => htb00 s t e' (hwt s t e' hq)
  have hbb0 : ∀ i B b, st1.box i = some B → lam i = some b → hb ≠ some b := fun i B b hq => hbb00 i B b (by rw [← hwb]; exact hq)
  obtain ⟨g, cap, cur, hv, hc, hm, hg, hN, hcu, hcs, hrr, hpr⟩ := h.own0 hs htk hcl hsz hr hne
  have hbg : hb = some g := hhb.symm.trans hg
  subst hbg
  let w' := w.freeze ⟨g, cur.size, none⟩ 1
  have hw' : ∀ k, w'.heap[k]? = if k = g then some (.cells cur e (cur.size, cur.size + 1)) else w.heap[k]? := freeze_heap hcu
  have hrun : (execOp a.eval o).run P w = .ok (.value (.slice (some ⟨g, 0, none⟩) rows.length cap)) w' := by
    have e1 : a.eval (.tmp ss) = .slice (some ⟨g, 0, none⟩) rows.length cap := hv
    have hsh : w.shape? g = some (e, cur.size) := by
      unfold World.shape?
      rw [hcu]
    simp only [execOp, ho, e1]
    simp [convert, run_underlying ht, run_underlying he, markStringish, hsh, w']
  unfold Oper.wp
  rw [hrun, Oper.upon_value]
  have hblt : ∀ b, some g = some b → b < w.heap.size := fun b hq => by
    cases hq
    exact (Array.getElem?_eq_some_iff.1 hcu).1
  have hszw : w'.heap.size = w.heap.size := by
    show (w.freeze ⟨g, cur.size, none⟩ 1).heap.size = _
    unfold World.freeze
    rw [if_neg (by decide)]
    simp
  have hos : w'.os = w.os := by show (w.freeze ⟨g, cur.size, none⟩ 1).os = _; unfold World.freeze; rw [if_neg (by decide)]
  have htape : w'.tape = w.tape := by show (w.freeze ⟨g, cur.size, none⟩ 1).tape = _; unfold World.freeze; rw [if_neg (by decide)]
  have hout : w'.output = w.output := by show (w.freeze ⟨g, cur.size, none⟩ 1).output = _; unfold World.freeze; rw [if_neg (by decide)]
  have hdr : w'.drawn = w.drawn := by show (w.freeze ⟨g, cur.size, none⟩ 1).drawn = _; unfold World.freeze; rw [if_neg (by decide)]
  let pr' : Nat → Nat → Prop := fun b o => prM pr (some g) b o ∨ (b = g ∧ o < rows.length * sz)
  have hleft : LeftM w pr (fun j => (([] : List Nat)[j]?).bind lam) (some g) w' pr' := ⟨hos, htape, hout, DLE.of_eq hdr, by rw [hszw]; exact Nat.le_refl _, fun k _ _ hk' => by rw [hw', if_neg (fun q => hk' (by rw [q]))], fun b o hp hq => .inl ⟨hp, hq⟩, fun b o hp => by
    rcases hp with hp | ⟨hp, _⟩
    · exact .inl hp
    · exact .inr (.inr (by rw [hp]))⟩
  have hs' := hr0.calledM htb0 hbb0 hmine hblt List.nodup_nil (show boxesOK st1 [] [] from trivial) rfl (outs := []) (by simp) (lam' := fun j => (([] : List Nat)[j]?).bind lam) (fun j => rfl) (fun j B hB => by simp at hB) hleft
  rw [setBoxes_nil] at hs'
  refine hn _ _ w' pr' lam hk (hs'.put hd ?_ trivial)
  simp only [R]
  refine ⟨some ⟨g, 0, none⟩, cap, rfl, hc, hm, .inr ⟨g, 0, sz, rfl, ?_⟩⟩
  refine RR.of_get fun j r hj => ?_
  have hjl : j < rows.length := (List.getElem?_eq_some_iff.1 hj).1
  obtain ⟨z, p1, p2, p3⟩ := hrr.get j r hj
  refine ⟨z, R.flat r z (flatL_mem hfr r (List.mem_of_getElem? hj)) p1, p2, fun q u hq => ?_⟩
  obtain ⟨p4, p5⟩ := p3 q u hq
  refine ⟨⟨?_, .inr ⟨rfl, ?_⟩⟩, p5⟩
  · have h1 := p4.1
    show w'.cell? _ = _
    unfold World.cell? at h1 ⊢
    dsimp only at h1 ⊢
    rw [hcu] at h1
    rw [hw', if_pos rfl]
    exact h1
  · have hqs : q < sz := by
      have := (Array.getElem?_eq_some_iff.1 hq).1
      omega
    have : (j + 1) * sz ≤ rows.length * sz := Nat.mul_le_mul_right _ (by omega)
    rw [Nat.add_mul, Nat.one_mul] at this
    omega
theorem opok_append_one {o : Oper} {K : St → Prop} {x : Operand} {ss tk : Nat} {t u e : TypeId} {rows rows2 : List V} {sz by' : Nat} {zv : V}
    (ho : o.op = .call { callee := .builtin .append, args := #[.tmp ss, x], argTypes := #[t, u] }) (hs : st.env ss = .list rows) (htk : st.tok ss = some (tk, e))
    (hcl : tcl tk < 2) (ht : P.underlying t = some (.slice e)) (hu : srcT P u = true) (hsz : sizeT P e = some sz) (hby : bytesT P e = some by') (hz : zeroT P e = some zv) (hzs : zv.csize = some sz)
    (hr1 : rowsOK sz rows)
    (hx : ∀ (w : World) (pr : Nat → Nat → Prop) (lam : Nat → Option Nat) (xv : Value), R ⟨w, pr, lam⟩ (st.eval x) xv → ∃ ys, Src P w pr lam sz xv rows2 ys)
    (hb : (rows.length + rows2.length) * by' ≤ 140737488355328) (hl : rows.length + rows2.length ≤ maxLen)
    {tn : Nat} (htn : tcl tn = 0) (hne : rows2.length ≠ 0)
    (hd : ∀ d, o.dst = some d → d < n') (hk : K (((st.clear tk).clear tn).put o.dst (.list (rows ++ rows2)) (some (tn, e)))) : OpOK P n' o st K := by
  intro F a w pr lam hF h next Q hn
  subst hF
  obtain ⟨i, z, i1, i2, i3, i4, i5⟩ := infoT hsz hby hz
  have hzc : z.cells.size = sz := (R_constV ⟨w, pr, lam⟩ z).csize (by rw [i5]; exact hzs)
  have hss := h.env ss
  rw [hs] at hss
  obtain ⟨ysOld, srcOld⟩ := Src.list (P := P) hss hr1
  obtain ⟨ys, src⟩ := hx w pr lam _ (h.eval x)
  have hss' := hss
  simp only [R] at hss
  obtain ⟨base, cap, hv, hc, hm, hbase⟩ := hss
  have hmaxl : rows.length + rows2.length ≤ 9223372036854775807 := by simp only [maxLen] at hl; omega
  have hexec : ∀ {v' w'}, (Builtin.append_ #[t, u] o.type #[.slice base rows.length cap, a.eval x]).run P w = .ok v' w' → (execOp a.eval o).run P w = .ok (.value v') w' := by
    intro v' w' hr
    have hv' : a.eval (.tmp ss) = .slice base rows.length cap := hv
    simp only [execOp, ho, resolve, invoke, builtin, Sem.run_bind, Sem.run_pure, Result.andThen_ok, List.map_toArray, List.map_cons, List.map_nil, hv', hr]
  by_cases h0 : rows2.length = 0
  · exact absurd h0 hne
  · by_cases hroom : rows.length + rows2.length ≤ cap
    · -- in place
      have hgb : ∃ b o', base = some ⟨b, o', none⟩ := by
        rcases hbase with ⟨_, _, rfl⟩ | ⟨b, o', k, rfl, _⟩
        · omega
        · exact ⟨b, o', rfl⟩
      obtain ⟨g, og, rfl⟩ := hgb
      have hgbl : gblock (tcl tk) (a.tmps.getD ss undef) = some g := by
        rw [hv]
        have : tcl tk = 0 ∧ 0 < cap ∨ tcl tk = 1 ∧ rows.length < cap := by omega
        simp only [gblock, if_pos this]
      obtain ⟨hN, n', cap', cur, sz', q1, q2, q3, q4, q5⟩ := h.own ss tk e htk g hgbl
      rw [hv] at q1
      simp only [Value.slice.injEq, Option.some.injEq, Addr.mk.injEq] at q1
      obtain ⟨⟨_, rfl, _⟩, rfl, rfl⟩ := q1
      obtain rfl : sz = sz' := by simp [i1] at q3; omega
      have hfl : (flatC ys).length = rows2.length * sz := by rw [flatC_length src.size, ← src.rel.length]
      have hfo : (flatC ysOld).length = rows.length * sz := by rw [flatC_length srcOld.size, ← srcOld.rel.length]
      have hfit : rows.length * i.size + (flatC ys).length ≤ cur.size := by
        rw [i2, hfl, q4, ← Nat.add_mul]; exact Nat.mul_le_mul_right _ hroom
      have hrun := run_append_in (ty := o.type) ht hu i1 (w := w) (g := g) (sLen := rows.length) (sCap := cap) q2 (src.len w) (by rw [i2]; exact src.first w (fun _ _ _ => rfl)) src.one hroom hfit
      unfold Oper.wp
      rw [hexec hrun, Oper.upon_value]
      rw [i2] at hfit ⊢
      generalize hcur' : (cur.toList.take (rows.length * sz) ++ flatC ys ++ cur.toList.drop (rows.length * sz + (flatC ys).length)).toArray = cur'
      have hget : ∀ j : Nat, cur'[j]? = if j < rows.length * sz then cur[j]? else if j < rows.length * sz + (flatC ys).length then (flatC ys)[j - rows.length * sz]? else cur[j]? := by
        intro j
        rw [← hcur']
        have hmin : min (rows.length * sz) cur.size = rows.length * sz := by omega
        simp only [List.getElem?_toArray, List.getElem?_append, List.length_append, List.length_take, Array.length_toList, hmin, List.getElem?_take, List.getElem?_drop, Array.getElem?_toList]
        by_cases c1 : j < rows.length * sz
        · simp [c1]; omega
        · by_cases c2 : j < rows.length * sz + (flatC ys).length
          · simp [c1, c2]
          · simp only [c1, c2, if_false]
            congr 1; omega
      have hsize' : cur'.size = cur.size := by
        rw [← hcur']
        simp; omega
      have hrel := h.grow (m := rows2.length) hcl htk hv (by omega) q2 hN (cur' := cur') (fun j hj => by rw [hget]; simp [hj]) q5
      have hle : Env.Le ⟨w, pr, lam⟩ ⟨w.setRow g cur', fun b o => pr b o ∨ (b = g ∧ rows.length * sz ≤ o ∧ o < (rows.length + rows2.length) * sz), lam⟩ := by
        refine ⟨fun _ _ h => h, fun _ _ h => .inl h, fun b o hp => ?_⟩
        show (w.setRow g cur').cell? _ = _
        by_cases hb : b = g
        · subst hb
          have ho : o < rows.length * sz := by
            rcases Nat.lt_or_ge o (rows.length * sz) with q | q
            · exact q
            · exact absurd hp (q5 o q)
          rw [cell_setRow_same w b o cur cur' e (0, 0) q2, hget]
          simp [ho, World.cell?, q2]
        · exact cell?_setRow_ne hb
      refine hn _ _ _ _ lam hk ((hrel.clear tn).put hd ?_ ?_)
      · simp only [R]
        refine ⟨some ⟨g, 0, none⟩, cap, by rw [List.length_append], by rw [List.length_append]; exact hroom, hm, .inr ⟨g, 0, sz, rfl, ?_⟩⟩
        refine RR.of_vals (ys := ysOld ++ ys) ((srcOld.rel.mono hle).append (src.rel.mono hle)) (fun y hy => ?_) fun j z hz => ?_
        · rcases List.mem_append.1 hy with hy | hy
          · exact srcOld.size y hy
          · exact src.size y hy
        · rw [flatC_append, List.getElem?_append, hfo] at hz
          rw [Nat.zero_add]
          split at hz
          · rename_i hj
            rcases hbase with ⟨hbn, _⟩ | ⟨b', o2, k', hbe, hrr⟩
            · simp [hbn] at hj
            · simp only [Option.some.injEq, Addr.mk.injEq] at hbe
              obtain ⟨rfl, rfl, _⟩ := hbe
              have hk' : k' = sz := by
                rcases rows with _ | ⟨r, rs⟩
                · simp at hj
                · exact hrr.size hr1 (r := r) (by simp)
              subst hk'
              obtain ⟨ys0, p1, p2, p3⟩ := hrr.vals
              have hf0 := srcOld.first w (fun _ _ _ => rfl)
              have hl0 : (flatC ys0).length = rows.length * k' := by rw [flatC_length p2, ← p1.length]
              have hf1 : (Builtin.firstCells k' rows.length (.slice (some ⟨g, 0, none⟩) rows.length cap)).run P w = .ok (flatC ys0).toArray w := by
                have := run_loadCells_list (P := P) w ⟨g, 0, none⟩ (flatC ys0) (fun j v hv' => by rw [Addr.add_none]; exact (p3 j v hv').1.1)
                rw [hl0] at this
                simpa [Builtin.firstCells] using this
              rw [hv] at hf0
              rw [hf0] at hf1
              simp only [Result.ok.injEq, and_true] at hf1
              have hfe : flatC ysOld = flatC ys0 := by simpa using congrArg Array.toList hf1
              rw [hfe] at hz
              obtain ⟨r1, r2⟩ := p3 j z hz
              rw [Nat.zero_add] at r1
              exact ⟨hle.at r1, r2⟩
          · rename_i hj
            have hjlt : j - rows.length * sz < (flatC ys).length := (List.getElem?_eq_some_iff.1 hz).1
            refine ⟨⟨?_, .inr ⟨rfl, by omega, ?_⟩⟩, src.one z (List.mem_of_getElem? hz)⟩
            · show (w.setRow g cur').cell? _ = _
              rw [cell_setRow_same w g j cur cur' e (0, 0) q2, hget, if_neg hj, if_pos (by omega)]
              exact hz
            · rw [Nat.add_mul]; omega
      · refine ⟨fun g' hg' => ?_, fun s t' e' g' hs' h1 h2 => ?_, fun i' B b hB hl' hg' => ?_, fun s e' hs => absurd rfl (clear_tok hs).2.1, fun hc' => (by rw [htn] at hc'; cases hc'), fun s e' b o g hs => absurd rfl (clear_tok hs).2.2, fun s u e' b o g hu' => by exfalso; unfold tcl at htn; omega⟩
        · have hg'' : g' = g := by
            simp only [gblock] at hg'
            split at hg'
            · cases hg'; rfl
            · cases hg'
          subst hg''
          refine ⟨hN, rows.length + rows2.length, cap, cur', sz, rfl, setRow_heap w g' cur cur' e (0, 0) q2, by simp [i1, i2], by rw [hsize', q4], fun o ho hp => ?_⟩
          rcases hp with hp | ⟨_, _, hp⟩
          · refine q5 o ?_ hp
            rw [Nat.add_mul] at ho; omega
          · omega
        · exfalso
          have hg'' : g' = g := by
            simp only [gblock] at h2
            split at h2
            · cases h2; rfl
            · cases h2
          rw [hg''] at h1
          obtain ⟨r1, r2, _⟩ := clear_tok (clear_tok hs').1
          exact r2 (h.coh s ss t' tk e' e g r1 htk h1 hgbl)
        · have hg'' : b = g := by
            simp only [gblock] at hg'
            split at hg'
            · cases hg'; rfl
            · cases hg'
          rw [hg''] at hl'
          exact h.apart i' B g ss tk e hB hl' htk hgbl
    · -- a new array
      have hge := grownCap_ge w (rows.length + rows2.length) cap e
      have hcm : grownCap w (rows.length + rows2.length) cap e ≤ maxLen := grownCap_le_maxLen w _ cap e hl
      have hof := srcOld.first w.drew (fun _ _ _ => rfl)
      rw [hv] at hof
      have hxf := src.first w.drew (fun _ _ _ => rfl)
      have hrun := run_append_new (ty := o.type) (base := base) ht hu i1 i4 (w := w) (src.len w) (by rw [i2]; exact hxf) (by rw [i2]; exact hof) (by omega) (by omega) (growslice_fits (by omega) (by rw [i3]; exact hb))
      unfold Oper.wp
      rw [hexec hrun, Oper.upon_value]
      generalize grownCap w (rows.length + rows2.length) cap e = nc at hge hcm ⊢
      have hfl : (flatC ys).length = rows2.length * sz := by rw [flatC_length src.size, ← src.rel.length]
      have hfo : (flatC ysOld).length = rows.length * sz := by rw [flatC_length srcOld.size, ← srcOld.rel.length]
      generalize hw' : w.drew.alloc (.cells ((flatC ysOld).toArray ++ (flatC ys).toArray ++ Builtin.zeroCells z.cells (nc - (rows.length + rows2.length))) e) = w'
      have hnew : w'.heap[w.heap.size]? = some (.cells ((flatC ysOld).toArray ++ (flatC ys).toArray ++ Builtin.zeroCells z.cells (nc - (rows.length + rows2.length))) e) := by
        rw [← hw']; exact heap_alloc_new w.drew _
      have hwsz : w'.heap.size = w.heap.size + 1 := by rw [← hw']; simp
      have hbel : Below w.heap.size w w' := by
        rw [← hw']
        exact ((Below.refl _ _).drew).alloc (Nat.le_refl _) _
      have hext : Ext w pr w' (fun b o => pr b o ∨ (b = w.heap.size ∧ o < (rows.length + rows2.length) * sz)) :=
        Ext.protect w pr w' hbel (by rw [← hw']; exact (DLE.drewN w 1).trans (DLE.of_eq rfl)) _ (fun b o hp => by rw [hp.1]; omega)
      have hle := hext.le (lam := lam) h.prlt
      have hcells : ∀ j z', (flatC (ysOld ++ ys))[j]? = some z' → w'.cell? ⟨w.heap.size, j, none⟩ = some z' := by
        intro j z' hz'
        rw [flatC_append] at hz'
        have hlt : j < (flatC ysOld ++ flatC ys).length := (List.getElem?_eq_some_iff.1 hz').1
        simp only [World.cell?, hnew]
        simp only [Option.isSome_none, Bool.false_eq_true, if_false]
        rw [Array.getElem?_append, if_pos (by simpa using hlt)]
        simpa using hz'
      refine hn _ _ w' _ lam hk ((((h.ext hext).clear tk).clear tn).put hd ?_ ?_)
      · simp only [R]
        refine ⟨some ⟨w.heap.size, 0, none⟩, nc, by rw [List.length_append], by rw [List.length_append]; exact hge, hcm, .inr ⟨w.heap.size, 0, sz, rfl, ?_⟩⟩
        refine RR.of_vals (ys := ysOld ++ ys) ((srcOld.rel.mono hle).append (src.rel.mono hle)) (fun y hy => ?_) fun j z' hz' => ?_
        · rcases List.mem_append.1 hy with hy | hy
          · exact srcOld.size y hy
          · exact src.size y hy
        · rw [Nat.zero_add]
          have hlt : j < (flatC (ysOld ++ ys)).length := (List.getElem?_eq_some_iff.1 hz').1
          rw [flatC_append, List.length_append, hfo, hfl, ← Nat.add_mul] at hlt
          refine ⟨⟨hcells j z' hz', .inr ⟨rfl, hlt⟩⟩, ?_⟩
          have hm' := List.mem_of_getElem? hz'
          rw [flatC_append] at hm'
          rcases List.mem_append.1 hm' with hm' | hm'
          · exact srcOld.one z' hm'
          · exact src.one z' hm'
      · have hown : Own P (fun g => w.heap.size ≤ g) ⟨w', fun b o => pr b o ∨ (b = w.heap.size ∧ o < (rows.length + rows2.length) * sz), lam⟩ (tcl tn) e (.slice (some ⟨w.heap.size, 0, none⟩) (rows.length + rows2.length) nc) := by
          intro g hg
          have hg'' : g = w.heap.size := by
            simp only [gblock] at hg
            split at hg
            · cases hg; rfl
            · cases hg
          subst hg''
          refine ⟨Nat.le_refl _, _, nc, _, sz, rfl, hnew, by simp [i1, i2], ?_, fun o ho hp => ?_⟩
          · simp only [Array.size_append, List.size_toArray, size_zeroCells, hzc, hfo, hfl, ← Nat.add_mul]
            congr 1; omega
          · rcases hp with hp | ⟨_, hp⟩
            · have := h.prlt _ _ hp; omega
            · omega
        exact TokOk.fresh (h.clear tk) hext tn (by rw [htn]; decide) hown
end
end Go.Eng
