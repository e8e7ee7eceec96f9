import Derived.Test.YtjcbpfhlgebgdaaE5
set_option linter.unusedSimpArgs false
set_option linter.unusedVariables false
namespace Go.Eng
open Go.RowKit
def flatC (ys : List Value) : List Value := ys.flatMap fun y => y.cells.toList
theorem flatC_length {k : Nat} : ∀ {ys : List Value}, (∀ y ∈ ys, y.cells.size = k) → (flatC ys).length = ys.length * k
  | [], _ => by simp [flatC]
  | y :: ys, h => by
    have h1 := h y (by simp)
    have h2 := flatC_length (ys := ys) fun z hz => h z (by simp [hz])
    simp only [flatC, List.flatMap_cons, List.length_append, Array.length_toList, List.length_cons, h1] at h2 ⊢
    rw [h2, Nat.add_mul]; omega
theorem RR.vals {E : Env} {b k : Nat} : ∀ {rows : List V} {o : Nat}, RR E b k o rows →
    ∃ ys : List Value, RL E rows ys ∧ (∀ y ∈ ys, y.cells.size = k) ∧ ∀ j z, (flatC ys)[j]? = some z → E.at b (o + j) z ∧ z.oneCell' = true
  | [], _, _ => ⟨[], by simp [RL], by simp, by simp [flatC]⟩
  | r :: rs, o, h => by
    simp only [RR] at h
    obtain ⟨⟨y, h1, h2, h3⟩, h⟩ := h
    obtain ⟨ys, q1, q2, q3⟩ := RR.vals h
    refine ⟨y :: ys, by simp only [RL]; exact ⟨y, ys, rfl, h1, q1⟩, ?_, fun j z hz => ?_⟩
    · intro z hz; rcases List.mem_cons.1 hz with rfl | hz
      · exact h2
      · exact q2 z hz
    · simp only [flatC, List.flatMap_cons, List.getElem?_append, Array.length_toList, h2] at hz
      split at hz
      · exact h3 j z (by simpa using hz)
      · rename_i hj
        have := q3 (j - k) z hz
        rwa [show o + k + (j - k) = o + j from by omega] at this
theorem RR.of_vals {E : Env} {b k : Nat} : ∀ {rows : List V} {ys : List Value} {o : Nat}, RL E rows ys → (∀ y ∈ ys, y.cells.size = k) →
    (∀ j z, (flatC ys)[j]? = some z → E.at b (o + j) z ∧ z.oneCell' = true) → RR E b k o rows
  | [], _, _, _, _, _ => by simp [RR]
  | r :: rs, ys, o, h, hs, hc => by
    simp only [RL] at h
    obtain ⟨y, ys, rfl, h1, h⟩ := h
    have h2 := hs y (by simp)
    simp only [RR]
    refine ⟨⟨y, h1, h2, fun j z hz => hc j z ?_⟩, RR.of_vals h (fun z hz => hs z (by simp [hz])) fun j z hz => ?_⟩
    · have hj : j < y.cells.toList.length := by
        have := (Array.getElem?_eq_some_iff.1 hz).1; simpa using this
      simp only [flatC, List.flatMap_cons, List.getElem?_append, hj, if_true]
      simpa using hz
    · have := hc (k + j) z (by
        simp only [flatC, List.flatMap_cons, List.getElem?_append, Array.length_toList, h2]
        rw [if_neg (by omega)]
        simpa [flatC] using hz)
      rwa [show o + (k + j) = o + k + j from by omega] at this
theorem flatC_append (xs ys : List Value) : flatC (xs ++ ys) = flatC xs ++ flatC ys := by simp [flatC]
def bytesT (P : Program) (t : TypeId) : Option Nat := (P.info? t).map (·.bytes)
def srcT (P : Program) (t : TypeId) : Bool := match P.underlying t with
  | some (.slice _) => true
  | some .string => true
  | _ => false
section
variable {P : Program}
theorem srcT_spec {u : TypeId} (h : srcT P u = true) : P.underlying u = some .string ∨ ∃ e', P.underlying u = some (.slice e') := by
  unfold srcT at h
  split at h
  · rename_i e' hu; exact .inr ⟨e', hu⟩
  · rename_i hu; exact .inl hu
  · cases h
theorem run_append_in {t u ty e : TypeId} {i : TypeInfo} (ht : P.underlying t = some (.slice e)) (hu : srcT P u = true) (hi : P.info? e = some i)
    {g sLen sCap m : Nat} {xv : Value} {news : List Value} {cur : Array Value} {e' : TypeId} {w : World} (hg : w.heap[g]? = some (.cells cur e' (0, 0)))
    (hxl : (Builtin.lenOf xv).run P w = .ok m w) (hxf : (Builtin.firstCells i.size m xv).run P w = .ok news.toArray w) (h1 : ∀ y ∈ news, y.oneCell' = true)
    (hroom : sLen + m ≤ sCap) (hfit : sLen * i.size + news.length ≤ cur.size) :
    (Builtin.append_ #[t, u] ty #[.slice (some ⟨g, 0, none⟩) sLen sCap, xv]).run P w =
      .ok (.slice (some ⟨g, 0, none⟩) (sLen + m) sCap) (w.setRow g (cur.toList.take (sLen * i.size) ++ news ++ cur.toList.drop (sLen * i.size + news.length)).toArray) := by
  have hst := run_storeCells_at P g (sLen * i.size) e' news 0 cur w hg (by simpa using hfit) h1
  simp only [Nat.add_zero] at hst
  rcases srcT_spec hu with hd | ⟨e2, hd⟩ <;> simp [Builtin.append_, run_underlying ht, run_underlying hd, sizeOf, typeInfo, hi, hxl, hroom, hxf, Addr.add_lit, hst]
theorem run_append_none {t u ty e : TypeId} {i : TypeInfo} (ht : P.underlying t = some (.slice e)) (hu : srcT P u = true) (hi : P.info? e = some i)
    {base : Option Addr} {sLen sCap : Nat} {xv : Value} {w : World}
    (hxl : (Builtin.lenOf xv).run P w = .ok 0 w) (hxf : (Builtin.firstCells i.size 0 xv).run P w = .ok #[] w) (hroom : sLen ≤ sCap) :
    (Builtin.append_ #[t, u] ty #[.slice base sLen sCap, xv]).run P w = .ok (.slice base sLen sCap) w := by
  rcases srcT_spec hu with hd | ⟨e2, hd⟩ <;> cases base <;> simp [Builtin.append_, run_underlying ht, run_underlying hd, sizeOf, typeInfo, hi, hxl, hroom, hxf, storeCells]
theorem run_append_new {t u ty e : TypeId} {i : TypeInfo} {z : Value} (ht : P.underlying t = some (.slice e)) (hu : srcT P u = true) (hi : P.info? e = some i) (hz : i.zero = some z)
    {base : Option Addr} {sLen sCap m : Nat} {xv : Value} {olds news : List Value} {w : World}
    (hxl : (Builtin.lenOf xv).run P w = .ok m w) (hxf : (Builtin.firstCells i.size m xv).run P w.drew = .ok news.toArray w.drew)
    (hof : (Builtin.firstCells i.size sLen (.slice base sLen sCap)).run P w.drew = .ok olds.toArray w.drew)
    (hg : sCap < sLen + m) (h63 : ((sLen + m : Nat) : Int) ≤ 9223372036854775807) (hfit : Builtin.nextslicecap (sLen + m) sCap * i.bytes ≤ 281474976710656) :
    (Builtin.append_ #[t, u] ty #[.slice base sLen sCap, xv]).run P w =
      .ok (.slice (some ⟨w.heap.size, 0, none⟩) (sLen + m) (grownCap w (sLen + m) sCap e))
        (w.drew.alloc (.cells (olds.toArray ++ news.toArray ++ Builtin.zeroCells z.cells (grownCap w (sLen + m) sCap e - (sLen + m))) e)) := by
  have hn : ¬ (sLen + m ≤ sCap) := by omega
  have h63' : ¬ (9223372036854775807 < ((sLen : Int) + (m : Int))) := by omega
  have h48' : ¬ (281474976710656 < Builtin.nextslicecap (sLen + m) sCap * i.bytes) := by omega
  rcases srcT_spec hu with hd | ⟨e2, hd⟩ <;> simp [Builtin.append_, run_underlying ht, run_underlying hd, sizeOf, typeInfo, zeroValue, hi, hz, hxl, hn, h63', h48', Question.forced, hxf, hof, newRow, grownCap]
  all_goals
    congr 2
    apply Array.ext'
    simp [List.append_assoc]
end
section
variable {P : Program} {n' : Nat} {F : Fr} {st : St} {a : Act} {w : World} {pr : Nat → Nat → Prop} {lam : Nat → Option Nat}
theorem SRel.grow (h : SRel P F st a w pr lam) {ss tk : Nat} {e : TypeId} {g n cap sz m : Nat} {cur cur' : Array Value} (hcl : tcl tk < 2) (htk : st.tok ss = some (tk, e)) (hx : a.tmps.getD ss undef = .slice (some ⟨g, 0, none⟩) n cap) (hlt : n < cap)
    (hg : w.heap[g]? = some (.cells cur e (0, 0))) (hN : F.mine g) (hsame : ∀ j, j < n * sz → cur'[j]? = cur[j]?) (hspare : ∀ o, n * sz ≤ o → ¬ pr g o) :
    SRel P F (st.clear tk) a (w.setRow g cur') (fun b o => pr b o ∨ (b = g ∧ n * sz ≤ o ∧ o < (n + m) * sz)) lam := by
  have hgb : gblock (tcl tk) (a.tmps.getD ss undef) = some g := by
    rw [hx]
    have : tcl tk = 0 ∧ 0 < cap ∨ tcl tk = 1 ∧ n < cap := by omega
    simp only [gblock, if_pos this]
  have hcell : ∀ b o, pr b o → (w.setRow g cur').cell? ⟨b, o, none⟩ = w.cell? ⟨b, o, none⟩ := by
    intro b o hp
    by_cases hb : b = g
    · subst hb
      have ho : o < n * sz := by
        rcases Nat.lt_or_ge o (n * sz) with q | q
        · exact q
        · exact absurd hp (hspare o q)
      rw [cell_setRow_same w b o cur cur' e (0, 0) hg, hsame o ho]
      simp [World.cell?, hg]
    · exact cell?_setRow_ne hb
  have hle : Env.Le ⟨w, pr, lam⟩ ⟨w.setRow g cur', fun b o => pr b o ∨ (b = g ∧ n * sz ≤ o ∧ o < (n + m) * sz), lam⟩ := ⟨fun _ _ h => h, fun _ _ h => .inl h, hcell⟩
  have hother : ∀ s t' e' g', (st.clear tk).tok s = some (t', e') → gblock (tcl t') (a.tmps.getD s undef) = some g' → g' ≠ g := by
    intro s t' e' g' hs hg' heq
    obtain ⟨q1, q2, _⟩ := clear_tok hs
    rw [heq] at hg'
    exact q2 (h.coh s ss t' tk e' e g q1 htk hg' hgb)
  have hboxne : ∀ i B b, st.box i = some B → lam i = some b → b ≠ g := by
    intro i B b hB hl hb
    exact h.apart i B b ss tk e hB hl htk (by rw [hb]; exact hgb)
  have hc := h.clear tk
  refine ⟨hc.size, hc.defers, fun s => (hc.env s).mono hle, ?_, hc.coh, ?_, hc.inj, hc.apart, hc.nolam, ?_, ?_, fun b o hp => .inl (hc.prsub b o hp), ?_, hc.lamsub, hc.coh2, fun s t e hs hcc => (hc.old s t e hs hcc).old (fun _ _ h => h) (fun b o hp => hcell b o (hc.prsub b o hp)), hc.ptr⟩
  · intro s t' e' hs g' hg'
    have hne := hother s t' e' g' hs hg'
    obtain ⟨r1, n', cap', cu, sz', r2, r3, r4, r5, r6⟩ := hc.own s t' e' hs g' hg'
    refine ⟨r1, n', cap', cu, sz', r2, ?_, r4, r5, fun o ho hp => ?_⟩
    · show (w.setRow g cur').heap[g']? = _
      rw [setRow_other w g g' cur' hne]; exact r3
    · rcases hp with hp | ⟨hp, _⟩
      · exact r6 o ho hp
      · exact hne hp
  · intro i B hB
    obtain ⟨b, r1, r2, r5, r6⟩ := h.box i B hB
    have hne := hboxne i B b hB r1
    refine ⟨b, r1, r2.mono hle (setRow_other w g b cur' hne), fun o hp => ?_, r6⟩
    rcases hp with hp | ⟨hp, _⟩
    · exact r5 o hp
    · exact hne hp
  · intro b o hp
    have hgl : g < w.heap.size := (Array.getElem?_eq_some_iff.1 hg).1
    rcases hp with hp | ⟨hp, _⟩
    · simpa using h.prlt b o hp
    · subst hp; simpa using hgl
  · refine ⟨h.keep.os, h.keep.tape, h.keep.output, h.keep.drawn.trans (DLE.of_eq rfl), by simpa using h.keep.size, fun k hk hn hh => ?_⟩
    have hne : k ≠ g := F.mine_keep hN hk hh
    rw [setRow_other w g k cur' hne]
    exact h.keep.block k hk hn hh
  · intro b o hp
    rcases hp with hp | ⟨hp, _⟩
    · exact h.prnew b o hp
    · subst hp; exact .inr hN
structure Src (P : Program) (w : World) (pr : Nat → Nat → Prop) (lam : Nat → Option Nat) (sz : Nat) (xv : Value) (rows2 : List V) (ys : List Value) : Prop where
  len : ∀ w', (Builtin.lenOf xv).run P w' = .ok rows2.length w'
  first : ∀ w', (∀ b o, pr b o → w'.cell? ⟨b, o, none⟩ = w.cell? ⟨b, o, none⟩) → (Builtin.firstCells sz rows2.length xv).run P w' = .ok (flatC ys).toArray w'
  rel : RL ⟨w, pr, lam⟩ rows2 ys
  size : ∀ y ∈ ys, y.cells.size = sz
  one : ∀ z ∈ flatC ys, z.oneCell' = true
theorem Src.list {sz : Nat} {x : Value} {rows : List V} (h : R ⟨w, pr, lam⟩ (.list rows) x) (hr : rowsOK sz rows) : ∃ ys, Src P w pr lam sz x rows ys := by
  simp only [R] at h
  obtain ⟨base, cap, rfl, hc, hm, hb⟩ := h
  rcases hb with ⟨rfl, rfl⟩ | ⟨b, o, k, rfl, hb⟩
  · exact ⟨[], fun w' => by simp [Builtin.lenOf], fun w' _ => by cases base <;> simp [Builtin.firstCells, flatC, loadCells, loadCellsFrom], by simp [RL], by simp, by simp [flatC]⟩
  · obtain ⟨ys, q1, q2, q3⟩ := hb.vals
    have hk : rows ≠ [] → k = sz := fun hne => by
      obtain ⟨r, hr'⟩ := List.exists_mem_of_ne_nil rows hne
      exact hb.size hr hr'
    have hlen : (flatC ys).length = rows.length * sz := by
      rw [flatC_length q2, ← q1.length]
      by_cases hne : rows = []
      · simp [hne]
      · rw [hk hne]
    refine ⟨ys, fun w' => by simp [Builtin.lenOf], fun w' hw => ?_, q1, fun y hy => ?_, fun z hz => ?_⟩
    · have := run_loadCells_list (P := P) w' ⟨b, o, none⟩ (flatC ys) (fun j v hv => by
        rw [Addr.add_none]
        obtain ⟨⟨r1, r2⟩, _⟩ := q3 j v hv
        rw [hw b (o + j) r2]; exact r1)
      rw [hlen] at this
      simpa [Builtin.firstCells] using this
    · rw [q2 y hy]
      apply hk
      rintro rfl
      have := q1.length
      have : ys = [] := List.eq_nil_of_length_eq_zero (by simpa using this.symm)
      subst this; cases hy
    · obtain ⟨j, hj⟩ := List.mem_iff_getElem?.1 hz
      exact (q3 j z hj).2
theorem R.list_len {E : Env} {rows : List V} {x : Value} (h : R E (.list rows) x) : rows.length ≤ maxLen := by
  simp only [R] at h
  obtain ⟨base, cap, _, h1, h2, _⟩ := h
  exact Nat.le_trans h1 h2
theorem infoT {P : Program} {e : TypeId} {sz by' : Nat} {zv : V} (hsz : sizeT P e = some sz) (hby : bytesT P e = some by') (hz : zeroT P e = some zv) :
    ∃ i z, P.info? e = some i ∧ i.size = sz ∧ i.bytes = by' ∧ i.zero = some z ∧ constV z = zv := by
  obtain ⟨i, z, h1, h2, h3⟩ := zeroT_spec hz
  simp [sizeT, h1] at hsz
  simp [bytesT, h1] at hby
  exact ⟨i, z, h1, hsz, hby, h2, h3⟩
theorem opok_append_src {o : Oper} {K : St → Prop} {x : Operand} {ss tk : Nat} {t u e : TypeId} {rows rows2 : List V} {sz by' : Nat} {zv : V}
    (ho : o.op = .call { callee := .builtin .append, args := #[.tmp ss, x], argTypes := #[t, u] }) (hs : st.env ss = .list rows) (htk : st.tok ss = some (tk, e))
    (hcl : tcl tk < 2) (ht : P.underlying t = some (.slice e)) (hu : srcT P u = true) (hsz : sizeT P e = some sz) (hby : bytesT P e = some by') (hz : zeroT P e = some zv) (hzs : zv.csize = some sz)
    (hr1 : rowsOK sz rows)
    (hx : ∀ (w : World) (pr : Nat → Nat → Prop) (lam : Nat → Option Nat) (xv : Value), R ⟨w, pr, lam⟩ (st.eval x) xv → ∃ ys, Src P w pr lam sz xv rows2 ys)
    (hb : (rows.length + rows2.length) * by' ≤ 140737488355328) (hl : rows.length + rows2.length ≤ maxLen)
    (hd : ∀ d, o.dst = some d → d < n') (hk : K ((st.clear tk).put o.dst (.list (rows ++ rows2)) (some (tk, e)))) : OpOK P n' o st K := by
  intro F a w pr lam hF h next Q hn
  subst hF
  obtain ⟨i, z, i1, i2, i3, i4, i5⟩ := infoT hsz hby hz
  have hzc : z.cells.size = sz := (R_constV ⟨w, pr, lam⟩ z).csize (by rw [i5]; exact hzs)
  have hss := h.env ss
  rw [hs] at hss
  obtain ⟨ysOld, srcOld⟩ := Src.list (P := P) hss hr1
  obtain ⟨ys, src⟩ := hx w pr lam _ (h.eval x)
  have hss' := hss
  simp only [R] at hss
  obtain ⟨base, cap, hv, hc, hm, hbase⟩ := hss
  have hmaxl : rows.length + rows2.length ≤ 9223372036854775807 := by simp only [maxLen] at hl; omega
  have hexec : ∀ {v' w'}, (Builtin.append_ #[t, u] o.type #[.slice base rows.length cap, a.eval x]).run P w = .ok v' w' → (execOp a.eval o).run P w = .ok (.value v') w' := by
    intro v' w' hr
    have hv' : a.eval (.tmp ss) = .slice base rows.length cap := hv
    simp only [execOp, ho, resolve, invoke, builtin, Sem.run_bind, Sem.run_pure, Result.andThen_ok, List.map_toArray, List.map_cons, List.map_nil, hv', hr]
  by_cases h0 : rows2.length = 0
  · -- nothing is appended
    have hnil : rows2 = [] := List.eq_nil_of_length_eq_zero h0
    subst hnil
    have hys : ys = [] := List.eq_nil_of_length_eq_zero (by have := src.rel.length; simpa using this.symm)
    subst hys
    have hrun := run_append_none (ty := o.type) (base := base) ht hu i1 (src.len w) (by rw [i2]; simpa [flatC] using src.first w (fun _ _ _ => rfl)) hc
    unfold Oper.wp
    rw [hexec hrun, Oper.upon_value]
    rw [List.append_nil] at hk
    refine hn _ _ w pr lam hk ((h.clear tk).put hd (by rw [← hv]; exact hss') ?_)
    rw [← hv]
    exact ⟨h.own ss tk e htk, fun s t' e' g hs' h1 h2 => (h.coh ss s tk t' e e' g htk (clear_tok hs').1 h2 h1), fun i B b hB hl' => h.apart i B b ss tk e hB hl' htk,
      fun s e' hs => absurd rfl (clear_tok hs).2.1, fun hc' => by omega, fun s e' b o g hs => absurd rfl (clear_tok hs).2.2, fun s u e' b o g hu' => by exfalso; unfold tcl at hcl; omega⟩
  · by_cases hroom : rows.length + rows2.length ≤ cap
    · -- in place
      have hgb : ∃ b o', base = some ⟨b, o', none⟩ := by
        rcases hbase with ⟨_, _, rfl⟩ | ⟨b, o', k, rfl, _⟩
        · omega
        · exact ⟨b, o', rfl⟩
      obtain ⟨g, og, rfl⟩ := hgb
      have hgbl : gblock (tcl tk) (a.tmps.getD ss undef) = some g := by
        rw [hv]
        have : tcl tk = 0 ∧ 0 < cap ∨ tcl tk = 1 ∧ rows.length < cap := by omega
        simp only [gblock, if_pos this]
      obtain ⟨hN, n', cap', cur, sz', q1, q2, q3, q4, q5⟩ := h.own ss tk e htk g hgbl
      rw [hv] at q1
      simp only [Value.slice.injEq, Option.some.injEq, Addr.mk.injEq] at q1
      obtain ⟨⟨_, rfl, _⟩, rfl, rfl⟩ := q1
      obtain rfl : sz = sz' := by simp [i1] at q3; omega
      have hfl : (flatC ys).length = rows2.length * sz := by rw [flatC_length src.size, ← src.rel.length]
      have hfo : (flatC ysOld).length = rows.length * sz := by rw [flatC_length srcOld.size, ← srcOld.rel.length]
      have hfit : rows.length * i.size + (flatC ys).length ≤ cur.size := by
        rw [i2, hfl, q4, ← Nat.add_mul]; exact Nat.mul_le_mul_right _ hroom
      have hrun := run_append_in (ty := o.type) ht hu i1 (w := w) (g := g) (sLen := rows.length) (sCap := cap) q2 (src.len w) (by rw [i2]; exact src.first w (fun _ _ _ => rfl)) src.one hroom hfit
      unfold Oper.wp
      rw [hexec hrun, Oper.upon_value]
      rw [i2] at hfit ⊢
      generalize hcur' : (cur.toList.take (rows.length * sz) ++ flatC ys ++ cur.toList.drop (rows.length * sz + (flatC ys).length)).toArray = cur'
      have hget : ∀ j : Nat, cur'[j]? = if j < rows.length * sz then cur[j]? else if j < rows.length * sz + (flatC ys).length then (flatC ys)[j - rows.length * sz]? else cur[j]? := by
        intro j
        rw [← hcur']
        have hmin : min (rows.length * sz) cur.size = rows.length * sz := by omega
        simp only [List.getElem?_toArray, List.getElem?_append, List.length_append, List.length_take, Array.length_toList, hmin, List.getElem?_take, List.getElem?_drop, Array.getElem?_toList]
        by_cases c1 : j < rows.length * sz
        · simp [c1]; omega
        · by_cases c2 : j < rows.length * sz + (flatC ys).length
          · simp [c1, c2]
          · simp only [c1, c2, if_false]
            congr 1; omega
      have hsize' : cur'.size = cur.size := by
        rw [← hcur']
        simp; omega
      have hrel := h.grow (m := rows2.length) hcl htk hv (by omega) q2 hN (cur' := cur') (fun j hj => by rw [hget]; simp [hj]) q5
      have hle : Env.Le ⟨w, pr, lam⟩ ⟨w.setRow g cur', fun b o => pr b o ∨ (b = g ∧ rows.length * sz ≤ o ∧ o < (rows.length + rows2.length) * sz), lam⟩ := by
        refine ⟨fun _ _ h => h, fun _ _ h => .inl h, fun b o hp => ?_⟩
        show (w.setRow g cur').cell? _ = _
        by_cases hb : b = g
        · subst hb
          have ho : o < rows.length * sz := by
            rcases Nat.lt_or_ge o (rows.length * sz) with q | q
            · exact q
            · exact absurd hp (q5 o q)
          rw [cell_setRow_same w b o cur cur' e (0, 0) q2, hget]
          simp [ho, World.cell?, q2]
        · exact cell?_setRow_ne hb
      refine hn _ _ _ _ lam hk (hrel.put hd ?_ ?_)
      · simp only [R]
        refine ⟨some ⟨g, 0, none⟩, cap, by rw [List.length_append], by rw [List.length_append]; exact hroom, hm, .inr ⟨g, 0, sz, rfl, ?_⟩⟩
        refine RR.of_vals (ys := ysOld ++ ys) ((srcOld.rel.mono hle).append (src.rel.mono hle)) (fun y hy => ?_) fun j z hz => ?_
        · rcases List.mem_append.1 hy with hy | hy
          · exact srcOld.size y hy
          · exact src.size y hy
        · rw [flatC_append, List.getElem?_append, hfo] at hz
          rw [Nat.zero_add]
          split at hz
          · rename_i hj
            rcases hbase with ⟨hbn, _⟩ | ⟨b', o2, k', hbe, hrr⟩
            · simp [hbn] at hj
            · simp only [Option.some.injEq, Addr.mk.injEq] at hbe
              obtain ⟨rfl, rfl, _⟩ := hbe
              have hk' : k' = sz := by
                rcases rows with _ | ⟨r, rs⟩
                · simp at hj
                · exact hrr.size hr1 (r := r) (by simp)
              subst hk'
              obtain ⟨ys0, p1, p2, p3⟩ := hrr.vals
              have hf0 := srcOld.first w (fun _ _ _ => rfl)
              have hl0 : (flatC ys0).length = rows.length * k' := by rw [flatC_length p2, ← p1.length]
              have hf1 : (Builtin.firstCells k' rows.length (.slice (some ⟨g, 0, none⟩) rows.length cap)).run P w = .ok (flatC ys0).toArray w := by
                have := run_loadCells_list (P := P) w ⟨g, 0, none⟩ (flatC ys0) (fun j v hv' => by rw [Addr.add_none]; exact (p3 j v hv').1.1)
                rw [hl0] at this
                simpa [Builtin.firstCells] using this
              rw [hv] at hf0
              rw [hf0] at hf1
              simp only [Result.ok.injEq, and_true] at hf1
              have hfe : flatC ysOld = flatC ys0 := by simpa using congrArg Array.toList hf1
              rw [hfe] at hz
              obtain ⟨r1, r2⟩ := p3 j z hz
              rw [Nat.zero_add] at r1
              exact ⟨hle.at r1, r2⟩
          · rename_i hj
            have hjlt : j - rows.length * sz < (flatC ys).length := (List.getElem?_eq_some_iff.1 hz).1
            refine ⟨⟨?_, .inr ⟨rfl, by omega, ?_⟩⟩, src.one z (List.mem_of_getElem? hz)⟩
            · show (w.setRow g cur').cell? _ = _
              rw [cell_setRow_same w g j cur cur' e (0, 0) q2, hget, if_neg hj, if_pos (by omega)]
              exact hz
            · rw [Nat.add_mul]; omega
      · refine ⟨fun g' hg' => ?_, fun s t' e' g' hs' h1 h2 => ?_, fun i' B b hB hl' hg' => ?_, fun s e' hs => absurd rfl (clear_tok hs).2.1, fun hc' => by omega, fun s e' b o g hs => absurd rfl (clear_tok hs).2.2, fun s u e' b o g hu' => by exfalso; unfold tcl at hcl; omega⟩
        · have hg'' : g' = g := by
            simp only [gblock] at hg'
            split at hg'
            · cases hg'; rfl
            · cases hg'
          subst hg''
          refine ⟨hN, rows.length + rows2.length, cap, cur', sz, rfl, setRow_heap w g' cur cur' e (0, 0) q2, by simp [i1, i2], by rw [hsize', q4], fun o ho hp => ?_⟩
          rcases hp with hp | ⟨_, _, hp⟩
          · refine q5 o ?_ hp
            rw [Nat.add_mul] at ho; omega
          · omega
        · exfalso
          have hg'' : g' = g := by
            simp only [gblock] at h2
            split at h2
            · cases h2; rfl
            · cases h2
          rw [hg''] at h1
          obtain ⟨r1, r2, _⟩ := clear_tok hs'
          exact r2 (h.coh s ss t' tk e' e g r1 htk h1 hgbl)
        · have hg'' : b = g := by
            simp only [gblock] at hg'
            split at hg'
            · cases hg'; rfl
            · cases hg'
          rw [hg''] at hl'
          exact h.apart i' B g ss tk e hB hl' htk hgbl
    · -- a new array
      have hge := grownCap_ge w (rows.length + rows2.length) cap e
      have hcm : grownCap w (rows.length + rows2.length) cap e ≤ maxLen := grownCap_le_maxLen w _ cap e hl
      have hof := srcOld.first w.drew (fun _ _ _ => rfl)
      rw [hv] at hof
      have hxf := src.first w.drew (fun _ _ _ => rfl)
      have hrun := run_append_new (ty := o.type) (base := base) ht hu i1 i4 (w := w) (src.len w) (by rw [i2]; exact hxf) (by rw [i2]; exact hof) (by omega) (by omega) (growslice_fits (by omega) (by rw [i3]; exact hb))
      unfold Oper.wp
      rw [hexec hrun, Oper.upon_value]
      generalize grownCap w (rows.length + rows2.length) cap e = nc at hge hcm ⊢
      have hfl : (flatC ys).length = rows2.length * sz := by rw [flatC_length src.size, ← src.rel.length]
      have hfo : (flatC ysOld).length = rows.length * sz := by rw [flatC_length srcOld.size, ← srcOld.rel.length]
      generalize hw' : w.drew.alloc (.cells ((flatC ysOld).toArray ++ (flatC ys).toArray ++ Builtin.zeroCells z.cells (nc - (rows.length + rows2.length))) e) = w'
      have hnew : w'.heap[w.heap.size]? = some (.cells ((flatC ysOld).toArray ++ (flatC ys).toArray ++ Builtin.zeroCells z.cells (nc - (rows.length + rows2.length))) e) := by
        rw [← hw']; exact heap_alloc_new w.drew _
      have hwsz : w'.heap.size = w.heap.size + 1 := by rw [← hw']; simp
      have hbel : Below w.heap.size w w' := by
        rw [← hw']
        exact ((Below.refl _ _).drew).alloc (Nat.le_refl _) _
      have hext : Ext w pr w' (fun b o => pr b o ∨ (b = w.heap.size ∧ o < (rows.length + rows2.length) * sz)) :=
        Ext.protect w pr w' hbel (by rw [← hw']; exact (DLE.drewN w 1).trans (DLE.of_eq rfl)) _ (fun b o hp => by rw [hp.1]; omega)
      have hle := hext.le (lam := lam) h.prlt
      have hcells : ∀ j z', (flatC (ysOld ++ ys))[j]? = some z' → w'.cell? ⟨w.heap.size, j, none⟩ = some z' := by
        intro j z' hz'
        rw [flatC_append] at hz'
        have hlt : j < (flatC ysOld ++ flatC ys).length := (List.getElem?_eq_some_iff.1 hz').1
        simp only [World.cell?, hnew]
        simp only [Option.isSome_none, Bool.false_eq_true, if_false]
        rw [Array.getElem?_append, if_pos (by simpa using hlt)]
        simpa using hz'
      refine hn _ _ w' _ lam hk (((h.ext hext).clear tk).put hd ?_ ?_)
      · simp only [R]
        refine ⟨some ⟨w.heap.size, 0, none⟩, nc, by rw [List.length_append], by rw [List.length_append]; exact hge, hcm, .inr ⟨w.heap.size, 0, sz, rfl, ?_⟩⟩
        refine RR.of_vals (ys := ysOld ++ ys) ((srcOld.rel.mono hle).append (src.rel.mono hle)) (fun y hy => ?_) fun j z' hz' => ?_
        · rcases List.mem_append.1 hy with hy | hy
          · exact srcOld.size y hy
          · exact src.size y hy
        · rw [Nat.zero_add]
          have hlt : j < (flatC (ysOld ++ ys)).length := (List.getElem?_eq_some_iff.1 hz').1
          rw [flatC_append, List.length_append, hfo, hfl, ← Nat.add_mul] at hlt
          refine ⟨⟨hcells j z' hz', .inr ⟨rfl, hlt⟩⟩, ?_⟩
          have hm' := List.mem_of_getElem? hz'
          rw [flatC_append] at hm'
          rcases List.mem_append.1 hm' with hm' | hm'
          · exact srcOld.one z' hm'
          · exact src.one z' hm'
      · have hown : Own P (fun g => w.heap.size ≤ g) ⟨w', fun b o => pr b o ∨ (b = w.heap.size ∧ o < (rows.length + rows2.length) * sz), lam⟩ (tcl tk) e (.slice (some ⟨w.heap.size, 0, none⟩) (rows.length + rows2.length) nc) := by
          intro g hg
          have hg'' : g = w.heap.size := by
            simp only [gblock] at hg
            split at hg
            · cases hg; rfl
            · cases hg
          subst hg''
          refine ⟨Nat.le_refl _, _, nc, _, sz, rfl, hnew, by simp [i1, i2], ?_, fun o ho hp => ?_⟩
          · simp only [Array.size_append, List.size_toArray, size_zeroCells, hzc, hfo, hfl, ← Nat.add_mul]
            congr 1; omega
          · rcases hp with hp | ⟨_, hp⟩
            · have := h.prlt _ _ hp; omega
            · omega
        exact TokOk.fresh h hext tk hcl hown
end
end Go.Eng
