import Derived.Test.YtjcbpfhlgebgdaaE10
import Derived.Laws.MakeOwn
set_option linter.unusedSimpArgs false
set_option linter.unusedVariables false
namespace Go.Eng
open Go.RowKit
mutual
def V.flat : V → Bool
  | .list rows => rows.isEmpty
  | .elt cs _ => cs.isEmpty
  | .agg cs => V.flatL cs
  | .tup cs => V.flatL cs
  | .fn _ a b => V.flatL a && V.flatL b
  | .iface _ v => v.flat
  | _ => true
def V.flatL : List V → Bool
  | [] => true
  | c :: cs => c.flat && V.flatL cs
end
mutual
theorem R.flat {w w' : World} {pr pr' : Nat → Nat → Prop} {lam : Nat → Option Nat} : ∀ (v : V) (x : Value), v.flat = true → R ⟨w, pr, lam⟩ v x → R ⟨w', pr', lam⟩ v x
  | .any, _, _, _ => by simp [R]
  | .un, _, _, q => by simpa [R] using q
  | .int _ _, _, _, q => by simpa [R] using q
  | .bool _, _, _, q => by simpa [R] using q
  | .str _, _, _, q => by simpa [R] using q
  | .agg cs, _, n, q => by
    simp only [V.flat] at n; simp only [R] at q ⊢
    obtain ⟨xs, e, q, q1⟩ := q
    exact ⟨xs, e, RL.flat cs xs n q, q1⟩
  | .tup cs, _, n, q => by
    simp only [V.flat] at n; simp only [R] at q ⊢
    obtain ⟨xs, e, q⟩ := q
    exact ⟨xs, e, RL.flat cs xs n q⟩
  | .loc _ _, _, _, q => by simpa [R] using q
  | .elt cs off, _, n, q => by
    simp only [V.flat, List.isEmpty_iff] at n; subst n
    simp only [R, RC, and_true] at q ⊢
    exact q
  | .nilp, _, _, q => by simpa [R] using q
  | .list rows, _, n, q => by
    simp only [V.flat, List.isEmpty_iff] at n; subst n
    simp only [R, RR, and_true] at q ⊢
    exact q
  | .fn _ a b, _, n, q => by
    simp only [V.flat, Bool.and_eq_true] at n; simp only [R] at q ⊢
    obtain ⟨xs, ys, e, q1, q2⟩ := q
    exact ⟨xs, ys, e, RL.flat a xs n.1 q1, RL.flat b ys n.2 q2⟩
  | .nilfn, _, _, q => by simpa [R] using q
  | .iface _ v, _, n, q => by
    simp only [V.flat] at n; simp only [R] at q ⊢
    obtain ⟨y, e, q⟩ := q
    exact ⟨y, e, R.flat v y n q⟩
  | .nilif, _, _, q => by simpa [R] using q
  | .mref _, _, _, q => by simpa [R] using q
  | .nilm, _, _, q => by simpa [R] using q
  | .ptr _, _, _, q => by simpa [R] using q
theorem RL.flat {w w' : World} {pr pr' : Nat → Nat → Prop} {lam : Nat → Option Nat} : ∀ (cs : List V) (xs : List Value), V.flatL cs = true → RL ⟨w, pr, lam⟩ cs xs → RL ⟨w', pr', lam⟩ cs xs
  | [], _, _, q => by simpa [RL] using q
  | c :: cs, _, n, q => by
    simp only [V.flatL, Bool.and_eq_true] at n; simp only [RL] at q ⊢
    obtain ⟨y, ys, e, q1, q2⟩ := q
    exact ⟨y, ys, e, R.flat c y n.1 q1, RL.flat cs ys n.2 q2⟩
end
theorem RM.flat {w w' : World} {pr pr' : Nat → Nat → Prop} {lam : Nat → Option Nat} : ∀ (cs : List V) (es : List MapEntry), V.flatL cs = true → RM ⟨w, pr, lam⟩ cs es → RM ⟨w', pr', lam⟩ cs es
  | [], _, _, q => by simpa [RM] using q
  | c :: cs, _, n, q => by
    simp only [V.flatL, Bool.and_eq_true] at n; simp only [RM] at q ⊢
    obtain ⟨k, v, e, es', rfl, h2, h3, h4, h5⟩ := q
    have n1 := n.1
    simp only [V.flat, V.flatL, Bool.and_true, Bool.and_eq_true] at n1
    exact ⟨k, v, e, es', rfl, h2, R.flat _ _ n1.1 h3, R.flat _ _ n1.2 h4, RM.flat cs es' n.2 h5⟩
theorem flatL_mem : ∀ {cs : List V}, V.flatL cs = true → ∀ c ∈ cs, c.flat = true
  | [], _, c, hc => by simp at hc
  | d :: cs, h, c, hc => by
    simp only [V.flatL, Bool.and_eq_true] at h
    rcases List.mem_cons.1 hc with rfl | hc
    · exact h.1
    · exact flatL_mem h.2 c hc
theorem flatL_of : ∀ {cs : List V}, (∀ c ∈ cs, c.flat = true) → V.flatL cs = true
  | [], _ => rfl
  | d :: cs, h => by
    have h1 := h d (by simp)
    have h2 : V.flatL cs = true := flatL_of (fun c hc => h c (List.mem_cons_of_mem _ hc))
    simp [V.flatL, h1, h2]
theorem BoxAt.flat {w w' : World} {pr pr' : Nat → Nat → Prop} {lam : Nat → Option Nat} {b : Nat} {B : Box} (hb : w'.heap[b]? = w.heap[b]?) (hf : V.flatL B.cells = true) (h : BoxAt ⟨w, pr, lam⟩ b B) : BoxAt ⟨w', pr', lam⟩ b B := by
  refine ⟨fun ht => ?_, fun ht => ?_⟩
  · obtain ⟨cur, h1, h2, h3⟩ := h.cells ht
    exact ⟨cur, hb.trans h1, RL.flat _ _ hf h2, h3⟩
  · obtain ⟨es, clock, h1, h2, h3⟩ := h.map ht
    exact ⟨es, clock, hb.trans h1, RM.flat _ _ hf h2, h3⟩
section
variable {P : Program} {n' : Nat} {F : Fr} {st : St} {a : Act} {w : World} {pr : Nat → Nat → Prop} {lam : Nat → Option Nat}
theorem SRel.own0 (h : SRel P F st a w pr lam) {ss tk : Nat} {e : TypeId} {rows : List V} {sz : Nat} (hs : st.env ss = .list rows) (htk : st.tok ss = some (tk, e)) (hcl : tcl tk = 0) (hsz : sizeT P e = some sz) (hr : rowsOK sz rows) (hne : rows ≠ []) :
    ∃ g cap cur, a.tmps.getD ss undef = .slice (some ⟨g, 0, none⟩) rows.length cap ∧ rows.length ≤ cap ∧ cap ≤ maxLen ∧ gblock 0 (a.tmps.getD ss undef) = some g ∧ F.mine g ∧ w.heap[g]? = some (.cells cur e (0, 0)) ∧ cur.size = cap * sz ∧
      RR ⟨w, pr, lam⟩ g sz 0 rows ∧ (∀ o, rows.length * sz ≤ o → ¬ pr g o) := by
  have hR := h.env ss
  rw [hs] at hR
  simp only [R] at hR
  obtain ⟨base, cap, hv, hc, hm, hb⟩ := hR
  have hpos : 0 < rows.length := List.length_pos_iff.2 hne
  rcases hb with ⟨hb, _⟩ | ⟨b, o, k, rfl, hb⟩
  · exact absurd hb hne
  have hg : gblock (tcl tk) (a.tmps.getD ss undef) = some b := by
    rw [hv, hcl]
    simp only [gblock]
    rw [if_pos (.inl ⟨trivial, by omega⟩)]
  obtain ⟨q1, n, cap', cur, sz', q2, q3, q4, q5, q6⟩ := h.own ss tk e htk b hg
  rw [hv] at q2
  simp only [Value.slice.injEq, Option.some.injEq, Addr.mk.injEq] at q2
  obtain ⟨⟨_, rfl, _⟩, rfl, rfl⟩ := q2
  have hss : sz' = sz := by
    have : sizeT P e = some sz' := q4
    rw [hsz] at this; cases this; rfl
  subst hss
  obtain ⟨r, hr'⟩ := List.exists_mem_of_ne_nil rows hne
  have hk := hb.size hr hr'
  subst hk
  exact ⟨b, cap, cur, hv, hc, hm, by rw [← hcl]; exact hg, q1, q3, q5, hb, q6⟩
theorem gb3 {t : Nat} (h : 2 ≤ tcl t) (x : Value) : gblock (tcl t) x = none := by
  unfold gblock
  split
  · rw [if_neg (by omega)]
  · rfl
theorem tcl3 {t : Nat} (h : tcl t = 0) : tcl (t + 3000000) = 3 := by
  unfold tcl at *; omega
theorem TokSome.ptr3 (h : SRel P F st a w pr lam) {ss tk : Nat} {e e' : TypeId} {g off : Nat} (htk : st.tok ss = some (tk, e')) (hcl : tcl tk = 0) (hg : gblock 0 (a.tmps.getD ss undef) = some g) {v : V} :
    TokSome P F st a w pr lam v (.pointer (some ⟨g, off, none⟩)) (tk + 3000000) e := by
  have h3 := tcl3 hcl
  refine ⟨fun g' hg' => ?_, fun s t' e' g' _ _ hg' => ?_, fun i B b _ _ hg' => ?_, fun s e' _ hc => ?_, fun hc => ?_, fun s e' b o g' _ _ hg' => ?_, fun s u e'' b o g' hu hs hx hg' => ?_⟩
  · rw [gb3 (by omega)] at hg'; cases hg'
  · rw [gb3 (by omega)] at hg'; cases hg'
  · rw [gb3 (by omega)] at hg'; cases hg'
  · omega
  · omega
  · rw [gb3 (by omega)] at hg'; cases hg'
  · have hut : u = tk := by omega
    subst hut
    simp only [Value.pointer.injEq, Option.some.injEq, Addr.mk.injEq] at hx
    obtain ⟨rfl, _, _⟩ := hx
    have := h.coh2 ss s u e' e'' htk hs hcl
    rw [hcl, ← this, hg] at hg'
    cases hg'; rfl
theorem opok_iaddrT {o : Oper} {K : St → Prop} {t e : TypeId} {ss tk sz : Nat} {ix : Operand} {rows : List V} {k : IntKind} {i : Int} (ho : o.op = .indexAddr t (.tmp ss) ix) (hs : st.env ss = .list rows) (htk : st.tok ss = some (tk, e)) (hcl : tcl tk = 0)
    (hi : st.eval ix = .int k i) (ht : P.underlying t = some (.slice e)) (hsz : sizeT P e = some sz) (hr : rowsOK sz rows) (h0 : 0 ≤ i) (h1 : i < rows.length) (hd : ∀ d, o.dst = some d → d < n')
    (hk : K (st.put o.dst (.ptr (i.toNat * sz)) (some (tk + 3000000, e)))) : OpOK P n' o st K := by
  intro F a w pr lam hF h next Q hn
  subst hF
  obtain ⟨g, cap, cur, hv, hc, hm, hg, hN, hgb, hcs, hrr, hpr⟩ := h.own0 hs htk hcl hsz hr (fun e => by subst e; simp at h1; omega)
  have hi' := h.eval ix
  rw [hi] at hi'
  simp only [R] at hi'
  have hcond : 0 ≤ i ∧ i < (rows.length : Int) := ⟨h0, h1⟩
  have hv' : a.eval (.tmp ss) = .slice (some ⟨g, 0, none⟩) rows.length cap := hv
  have hrun : (execOp a.eval o).run P w = .ok (.value (.pointer (some ⟨g, i.toNat * sz, none⟩))) w := by
    simp only [execOp, ho, hv', hi']
    simp [Instr.indexAt, asIntOf, run_underlying ht, hcond, run_sizeOf hsz, Addr.add_none]
  unfold Oper.wp
  rw [hrun, Oper.upon_value]
  exact hn _ _ w pr lam hk (h.put hd (by simp only [R]; exact ⟨g, rfl⟩) (TokSome.ptr3 h htk hcl hg))
theorem opok_faddrT {o : Oper} {K : St → Prop} {s t : TypeId} {d0 fi off fo n tk : Nat} {e : TypeId} (ho : o.op = .fieldAddr s (.tmp d0) fi) (hs : st.env d0 = .ptr off) (htk : st.tok d0 = some (tk + 3000000, e)) (hcl : tcl tk = 0)
    (hf : fieldT P s fi = some (fo, t)) (hsz : sizeT P t = some n) (hn0 : n ≠ 0) (hd : ∀ d, o.dst = some d → d < n') (hk : K (st.put o.dst (.ptr (off + fo)) (some (tk + 3000000, e)))) : OpOK P n' o st K := by
  intro F a w pr lam hF h next Q hn
  subst hF
  have hR := h.env d0
  rw [hs] at hR
  simp only [R] at hR
  obtain ⟨b, hv⟩ := hR
  have hv' : a.eval (.tmp d0) = .pointer (some ⟨b, off, none⟩) := hv
  have hrun : (execOp a.eval o).run P w = .ok (.value (.pointer (some ⟨b, off + fo, none⟩))) w := by
    simp only [execOp, ho, hv']
    simp [run_fieldAt hf hsz hn0]
  unfold Oper.wp
  rw [hrun, Oper.upon_value]
  have h3 := tcl3 hcl
  refine hn _ _ w pr lam hk (h.put hd (by simp only [R]; exact ⟨b, rfl⟩) ⟨fun g' hg' => ?_, fun s t' e' g' _ _ hg' => ?_, fun i B b _ _ hg' => ?_, fun s e' _ hc => ?_, fun hc => ?_, fun s e' b o g' _ _ hg' => ?_, fun s u e'' b' o g' hu hs' hx hg' => ?_⟩)
  · rw [gb3 (by omega)] at hg'; cases hg'
  · rw [gb3 (by omega)] at hg'; cases hg'
  · rw [gb3 (by omega)] at hg'; cases hg'
  · omega
  · omega
  · rw [gb3 (by omega)] at hg'; cases hg'
  · have hut : u = tk := by omega
    subst hut
    simp only [Value.pointer.injEq, Option.some.injEq, Addr.mk.injEq] at hx
    obtain ⟨rfl, _, _⟩ := hx
    exact h.ptr d0 s u e e'' _ _ g' htk hs' hv hg'
theorem opok_loadT {o : Oper} {K : St → Prop} {t e e' : TypeId} {d0 ss tk sz j f n : Nat} {rows : List V} {r v : V} (ho : o.op = .load t (.tmp d0)) (hs : st.env d0 = .ptr (j * sz + f)) (htk : st.tok d0 = some (tk + 3000000, e')) (hcl : tcl tk = 0)
    (hss : st.env ss = .list rows) (htk' : st.tok ss = some (tk, e)) (hsz : sizeT P e = some sz) (hr : rowsOK sz rows) (hj : rows[j]? = some r) (hst : sizeT P t = some n)
    (hv : (aggT P t = some true ∧ f + n ≤ r.cellsL.length ∧ v = .agg ((r.cellsL.drop f).take n)) ∨ (aggT P t = some false ∧ r.cellsL[f]? = some v)) (hd : ∀ d, o.dst = some d → d < n') (hk : K (st.put o.dst v none)) : OpOK P n' o st K := by
  intro F a w pr lam hF h next Q hn
  subst hF
  have hne : rows ≠ [] := fun e => by subst e; simp at hj
  obtain ⟨g, cap, cur, hvs, hc, hm, hg, hN, hgb, hcs, hrr, hpr⟩ := h.own0 hss htk' hcl hsz hr hne
  have hR := h.env d0
  rw [hs] at hR
  simp only [R] at hR
  obtain ⟨b, hvd⟩ := hR
  have hbg : b = g := h.ptr d0 ss tk e' e b _ g htk htk' hvd (by rw [hcl]; exact hg)
  subst hbg
  obtain ⟨y, q1, q2, q3⟩ := hrr.get j r hj
  have hcs' := hr r (List.mem_of_getElem? hj)
  obtain ⟨c1, c2⟩ := q1.cells hcs'
  have hlen := c1.length
  have hvd' : a.eval (.tmp d0) = .pointer (some ⟨b, j * sz + f, none⟩) := hvd
  have key : ∃ x, (loadVar t ⟨b, j * sz + f, none⟩).run P w = .ok x w ∧ R ⟨w, pr, lam⟩ v x := by
    rcases hv with ⟨ha, hfit, rfl⟩ | ⟨ha, hc⟩
    · refine ⟨.agg ((y.cells.toList.drop f).take n).toArray, run_loadVar_agg ha (by rw [hst]; congr 1; simp only [List.length_take, List.length_drop]; omega) (fun q x hx => ?_), ?_⟩
      · rw [List.getElem?_take] at hx
        split at hx
        · rw [List.getElem?_drop] at hx
          have := (q3 (f + q) x (by simpa using hx)).1.1
          rw [Nat.zero_add] at this
          rwa [show j * sz + f + q = j * sz + (f + q) from by omega]
        · cases hx
      · simp only [R]
        exact ⟨_, rfl, (c1.drop f).take n, fun z hz => c2 z (List.mem_of_mem_drop (List.mem_of_mem_take hz))⟩
    · obtain ⟨x, hx, hrx⟩ := c1.get f v hc
      refine ⟨x, run_loadVar_one ha ?_, hrx⟩
      have := (q3 f x (by simpa using hx)).1.1
      rwa [Nat.zero_add] at this
  obtain ⟨x, hx, hrx⟩ := key
  have hrun : (execOp a.eval o).run P w = .ok (.value x) w := by
    simp only [execOp, ho, hvd']
    simp [Instr.loadAt, Instr.sureAddr, hx]
  unfold Oper.wp
  rw [hrun, Oper.upon_value]
  exact hn _ _ w pr lam hk (h.put hd hrx trivial)
def rowPut (r : V) (f n : Nat) (y : V) : V := match r with
  | .agg cs => .agg (cs.take f ++ y.cellsL ++ cs.drop (f + n))
  | _ => y
def keepS (tk : Nat) (rows' : List V) (x : V × Option (Nat × TypeId)) : V × Option (Nat × TypeId) :=
  match x.2 with
  | some (t, e) => if t = tk then (.list rows', x.2) else if tcl t = 2 then x else if x.1.flat = true then x else if tcl t = 0 then
      (match x.1 with | .list rs => if V.flatL rs = true then x else (.any, none) | _ => (.any, none)) else (.any, none)
  | none => if x.1.flat = true then x else (.any, none)
def St.changed (st : St) (tk : Nat) (rows' : List V) : St := { st with sl := fun s => keepS tk rows' (st.sl s) }
theorem keepS_cases (tk : Nat) (rows' : List V) (x : V × Option (Nat × TypeId)) :
    (∃ e, x.2 = some (tk, e) ∧ keepS tk rows' x = (.list rows', x.2)) ∨ keepS tk rows' x = (.any, none) ∨
    (keepS tk rows' x = x ∧ ((∃ t e, x.2 = some (t, e) ∧ t ≠ tk ∧ (tcl t = 2 ∨ (tcl t = 0 ∧ ∃ rs, x.1 = .list rs ∧ V.flatL rs = true))) ∨ x.1.flat = true) ∧ ∀ e, x.2 ≠ some (tk, e)) := by
  obtain ⟨v, tok⟩ := x
  unfold keepS
  cases tok with
  | none =>
    simp only
    split
    · rename_i h; exact .inr (.inr ⟨rfl, .inr h, fun e he => by cases he⟩)
    · exact .inr (.inl rfl)
  | some te =>
    obtain ⟨t, e⟩ := te
    simp only
    by_cases h1 : t = tk
    · rw [if_pos h1]; subst h1; exact .inl ⟨e, rfl, rfl⟩
    · rw [if_neg h1]
      have hne : ∀ e', (some (t, e) : Option (Nat × TypeId)) ≠ some (tk, e') := fun e' he => by cases he; exact h1 rfl
      by_cases h2 : tcl t = 2
      · rw [if_pos h2]; exact .inr (.inr ⟨rfl, .inl ⟨t, e, rfl, h1, .inl h2⟩, hne⟩)
      · rw [if_neg h2]
        by_cases h3 : v.flat = true
        · rw [if_pos h3]; exact .inr (.inr ⟨rfl, .inr h3, hne⟩)
        · rw [if_neg h3]
          by_cases h4 : tcl t = 0
          · rw [if_pos h4]
            cases v with
            | list rs =>
              simp only
              split
              · rename_i h5; exact .inr (.inr ⟨rfl, .inl ⟨t, e, rfl, h1, .inr ⟨h4, rs, rfl, h5⟩⟩, hne⟩)
              · exact .inr (.inl rfl)
            | _ => exact .inr (.inl rfl)
          · rw [if_neg h4]; exact .inr (.inl rfl)
theorem SRel.changed (h : SRel P F st a w pr lam) {w' : World} {ss tk : Nat} {e : TypeId} {g cap sz : Nat} {rows rows' : List V} {cur cur' : Array Value} (htk : st.tok ss = some (tk, e)) (hcl : tcl tk = 0)
    (hv : a.tmps.getD ss undef = .slice (some ⟨g, 0, none⟩) rows.length cap) (hg : gblock 0 (a.tmps.getD ss undef) = some g) (hN : F.mine g) (hw : Swap w w' g) (hcur : w.heap[g]? = some (.cells cur e (0, 0))) (hcur' : w'.heap[g]? = some (.cells cur' e (0, 0)))
    (hsize : cur'.size = cur.size) (hbf : ∀ i B, st.box i = some B → V.flatL B.cells = true) (hlen : rows'.length = rows.length) (hc : rows.length ≤ cap) (hm : cap ≤ maxLen)
    (hrr : RR ⟨w', pr, lam⟩ g sz 0 rows') : SRel P F (st.changed tk rows') a w' pr lam := by
  have htok : ∀ s t e', (st.changed tk rows').tok s = some (t, e') → st.tok s = some (t, e') := by
    intro s t e' hs
    change (keepS tk rows' (st.sl s)).2 = some (t, e') at hs
    rcases keepS_cases tk rows' (st.sl s) with ⟨e0, _, q⟩ | q | ⟨q, _⟩ <;> rw [q] at hs
    · exact hs
    · cases hs
    · exact hs
  have hold : ∀ b o, F.pr0 b o → w'.cell? ⟨b, o, none⟩ = w.cell? ⟨b, o, none⟩ := fun b o hp => hw.cell (fun e => by
    subst e
    exact F.mine_pr hN hp)
  refine ⟨h.size, h.defers, fun s => ?_, fun s t e' hs => ?_, fun s s' t t' e e' g hs hs' => h.coh s s' t t' e e' g (htok _ _ _ hs) (htok _ _ _ hs'), fun i B hB => ?_, h.inj, fun i B b s t e hB hl hs => h.apart i B b s t e hB hl (htok _ _ _ hs), h.nolam, ?_, ?_, h.prsub, h.prnew, h.lamsub,
    fun s s' t e e' hs hs' => h.coh2 s s' t e e' (htok _ _ _ hs) (htok _ _ _ hs'), fun s t e' hs hc => ?_, fun s s' t e e' b o g hs hs' => h.ptr s s' t e e' b o g (htok _ _ _ hs) (htok _ _ _ hs')⟩
  · change R _ (keepS tk rows' (st.sl s)).1 _
    rcases keepS_cases tk rows' (st.sl s) with ⟨e0, hs, q⟩ | q | ⟨q, hcase, _⟩
    · rw [q]
      have : a.tmps.getD s undef = a.tmps.getD ss undef := h.coh2 s ss tk e0 e hs htk hcl
      rw [this, hv]
      simp only [R]
      exact ⟨_, cap, by rw [hlen], by omega, hm, .inr ⟨g, 0, sz, rfl, hrr⟩⟩
    · rw [q]; simp [R]
    · rw [q]
      rcases hcase with ⟨t, e', hs, hne, h2 | ⟨h0, rs, hrs, hfl⟩⟩ | hfl
      · have := h.old s t e' hs h2
        exact R.mono (E := ⟨w', F.pr0, lam⟩) (E' := ⟨w', pr, lam⟩) ⟨fun _ _ h => h, h.prsub, fun _ _ _ => rfl⟩ _ _ (this.old (fun _ _ h => h) hold)
      · have hR := h.env s
        change R _ (st.sl s).1 _ at hR
        rw [hrs] at hR ⊢
        simp only [R] at hR ⊢
        obtain ⟨base, cap2, e1, c1, c2, hb⟩ := hR
        refine ⟨base, cap2, e1, c1, c2, ?_⟩
        rcases hb with hb | ⟨b, o, k, e2, hb⟩
        · exact .inl hb
        · refine .inr ⟨b, o, k, e2, ?_⟩
          by_cases hrs0 : rs = []
          · subst hrs0; simp [RR]
          have hpos : 0 < rs.length := List.length_pos_iff.2 hrs0
          have hgb : gblock (tcl t) (a.tmps.getD s undef) = some b := by
            rw [e1, e2, h0]
            simp only [gblock]
            rw [if_pos (.inl ⟨trivial, by omega⟩)]
          have hbg : b ≠ g := by
            rintro rfl
            exact hne (h.coh s ss t tk e' e b hs htk hgb (by rw [hcl]; exact hg))
          refine RR.of_get fun i r hi => ?_
          obtain ⟨y, p1, p2, p3⟩ := hb.get i r hi
          refine ⟨y, R.flat r y (flatL_mem hfl r (List.mem_of_getElem? hi)) p1, p2, fun j z hz => ?_⟩
          obtain ⟨p4, p5⟩ := p3 j z hz
          exact ⟨⟨(hw.cell hbg).trans p4.1, p4.2⟩, p5⟩
      · exact R.flat _ _ hfl (h.env s)
  · intro g' hg'
    obtain ⟨r1, n, cap', cu, sz', r2, r3, r4, r5, r6⟩ := h.own s t e' (htok s t e' hs) g' hg'
    by_cases hgg : g' = g
    · subst hgg
      have r3' : w.heap[g']? = some (.cells cu e' (0, 0)) := r3
      rw [hcur] at r3'
      simp only [Option.some.injEq, Obj.cells.injEq, and_true] at r3'
      obtain ⟨rfl, rfl⟩ := r3'
      exact ⟨r1, n, cap', cur', sz', r2, hcur', r4, by rw [hsize]; exact r5, r6⟩
    · exact ⟨r1, n, cap', cu, sz', r2, (hw.block g' hgg).trans r3, r4, r5, r6⟩
  · obtain ⟨b, r1, r2, r5, r6⟩ := h.box i B hB
    have hbg : b ≠ g := by
      rintro rfl
      exact h.apart i B b ss tk e hB r1 htk (by rw [hcl]; exact hg)
    exact ⟨b, r1, BoxAt.flat (hw.block b hbg) (hbf i B hB) r2, r5, r6⟩
  · intro b o hp; rw [hw.size]; exact h.prlt b o hp
  · refine ⟨hw.os.trans h.keep.os, hw.tape.trans h.keep.tape, hw.output.trans h.keep.output, h.keep.drawn.trans hw.drawn, by rw [hw.size]; exact h.keep.size, fun k hk hn hh => ?_⟩
    have hne : k ≠ g := F.mine_keep hN hk hh
    rw [hw.block k hne]
    exact h.keep.block k hk hn hh
  · have hs' := htok s t e' hs
    have hhold := h.old s t e' hs' hc
    change R _ (keepS tk rows' (st.sl s)).1 _
    change (keepS tk rows' (st.sl s)).2 = some (t, e') at hs
    rcases keepS_cases tk rows' (st.sl s) with ⟨e0, h1, q⟩ | q | ⟨q, _⟩
    · exfalso
      have h1' : st.tok s = some (tk, e0) := h1
      rw [hs'] at h1'
      cases h1'
      omega
    · rw [q] at hs; cases hs
    · rw [q]; exact hhold.old (fun _ _ h => h) hold
theorem opok_storeT {o : Oper} {K : St → Prop} {t e e' : TypeId} {d0 ss tk sz j f n : Nat} {x : Operand} {rows : List V} {r v : V} (ho : o.op = .store t (.tmp d0) x) (hs : st.env d0 = .ptr (j * sz + f)) (htk : st.tok d0 = some (tk + 3000000, e')) (hcl : tcl tk = 0)
    (hss : st.env ss = .list rows) (htk' : st.tok ss = some (tk, e)) (hsz : sizeT P e = some sz) (hr : rowsOK sz rows) (hfr : V.flatL rows = true) (hj : rows[j]? = some r) (hst : sizeT P t = some n) (hx : st.eval x = v) (hvn : v.csize = some n) (hvf : v.flat = true)
    (hfit : f + n ≤ sz) (hag : isAgg r = true ∨ (isAgg r = false ∧ isAgg v = false ∧ f = 0 ∧ n = 1)) (hbf : ∀ i B, st.box i = some B → V.flatL B.cells = true) (hd : o.dst = none) (hk : K (st.changed tk (rows.set j (rowPut r f n v)))) : OpOK P n' o st K := by
  intro F a w pr lam hF h next Q hn
  subst hF
  have hne : rows ≠ [] := fun e => by subst e; simp at hj
  obtain ⟨g, cap, cur, hvs, hc, hm, hg, hN, hgb, hcs, hrr, hpr⟩ := h.own0 hss htk' hcl hsz hr hne
  have hR := h.env d0
  rw [hs] at hR
  simp only [R] at hR
  obtain ⟨b, hvd⟩ := hR
  have hbg : b = g := h.ptr d0 ss tk e' e b _ g htk htk' hvd (by rw [hcl]; exact hg)
  subst hbg
  have hjlt : j < rows.length := (List.getElem?_eq_some_iff.1 hj).1
  have hvd' : a.eval (.tmp d0) = .pointer (some ⟨b, j * sz + f, none⟩) := hvd
  have hy := h.eval x
  rw [hx] at hy
  obtain ⟨r1, r2⟩ := hy.cells hvn
  have hys := hy.csize hvn
  have hbound : (j + 1) * sz ≤ cap * sz := Nat.mul_le_mul_right _ (by omega)
  rw [Nat.add_mul, Nat.one_mul] at hbound
  have hfit' : j * sz + f + n ≤ cur.size := by omega
  have hrun : (execOp a.eval o).run P w = .ok .skip (w.setRow b (cur.toList.take (j * sz + f) ++ (a.eval x).cells.toList ++ cur.toList.drop (j * sz + f + n)).toArray) := by
    simp only [execOp, ho, hvd']
    simp only [Instr.storeAt, Instr.sureAddr, Sem.run_bind, Sem.run_pure, Result.andThen_ok, run_storeVar hst hys hgb hfit' r2]
  unfold Oper.wp
  rw [hrun, Oper.upon_skip, hd]
  generalize hcur' : (cur.toList.take (j * sz + f) ++ (a.eval x).cells.toList ++ cur.toList.drop (j * sz + f + n)).toArray = cur'
  have hylen : (a.eval x).cells.toList.length = n := by simpa using hys
  have hget : ∀ q : Nat, cur'[q]? = if q < j * sz + f then cur[q]? else if q < j * sz + f + n then (a.eval x).cells.toList[q - (j * sz + f)]? else cur[q]? := by
    intro q
    rw [← hcur']
    have hmin : min (j * sz + f) cur.size = j * sz + f := by omega
    simp only [List.getElem?_toArray, List.getElem?_append, List.length_append, List.length_take, Array.length_toList, hmin, List.getElem?_take, List.getElem?_drop, Array.getElem?_toList, hys]
    by_cases c1 : q < j * sz + f
    · simp [c1]; omega
    · by_cases c2 : q < j * sz + f + n
      · simp [c1, c2]
      · simp only [c1, c2, if_false]
        congr 1; omega
  have hsize : cur'.size = cur.size := by
    rw [← hcur']
    simp [hys]; omega
  have hset : (w.setRow b cur').heap[b]? = some (.cells cur' e (0, 0)) := setRow_heap w b cur cur' e (0, 0) hgb
  have hcell : ∀ q, (w.setRow b cur').cell? ⟨b, q, none⟩ = cur'[q]? := fun q => cell_setRow_same w b q cur cur' e (0, 0) hgb
  have hcell0 : ∀ q, w.cell? ⟨b, q, none⟩ = cur[q]? := fun q => by simp [World.cell?, hgb]
  refine hn _ _ _ pr lam hk (h.changed (sz := sz) htk' hcl hvs hg hN (Swap.setRow w b cur') hgb hset hsize hbf (by simp) hc hm ?_)
  refine RR.of_get fun i ri hi => ?_
  rw [List.getElem?_set] at hi
  by_cases hij : j = i
  · subst hij
    rw [if_pos rfl, if_pos hjlt] at hi
    cases hi
    obtain ⟨y0, p1, p2, p3⟩ := hrr.get j r hj
    have hrsz := hr r (List.mem_of_getElem? hj)
    obtain ⟨c1, c2⟩ := p1.cells hrsz
    have hy0 : y0.cells.toList.length = sz := by simpa using p2
    have hnew : ∃ z : Value, R ⟨w.setRow b cur', pr, lam⟩ (rowPut r f n v) z ∧ z.cells.toList = y0.cells.toList.take f ++ (a.eval x).cells.toList ++ y0.cells.toList.drop (f + n) := by
      rcases hag with hag | ⟨hag, hav, rfl, rfl⟩
      · cases r with
        | agg cs =>
          refine ⟨.agg (y0.cells.toList.take f ++ (a.eval x).cells.toList ++ y0.cells.toList.drop (f + n)).toArray, ?_, by simp [Value.cells]⟩
          simp only [rowPut, R]
          have hfr' := flatL_mem hfr _ (List.mem_of_getElem? hj)
          simp only [V.flat] at hfr'
          refine ⟨_, rfl, ?_, fun z hz => ?_⟩
          · simp only [V.cellsL] at c1
            have k1 : RL ⟨w.setRow b cur', pr, lam⟩ cs y0.cells.toList := RL.flat _ _ hfr' c1
            have k2 : RL ⟨w.setRow b cur', pr, lam⟩ v.cellsL (a.eval x).cells.toList := (R.cells (R.flat v _ hvf hy) hvn).1
            exact ((k1.take f).append k2).append (k1.drop (f + n))
          · simp only [List.mem_append] at hz
            rcases hz with (hz | hz) | hz
            · exact c2 z (List.mem_of_mem_take hz)
            · exact r2 z hz
            · exact c2 z (List.mem_of_mem_drop hz)
        | _ => simp [isAgg] at hag
      · have hsz1 : sz = 1 := by
          have := hrsz
          cases r <;> simp [V.csize] at this <;> first | omega | (simp [isAgg] at hag)
        refine ⟨a.eval x, ?_, ?_⟩
        · have : rowPut r 0 1 v = v := by cases r <;> first | rfl | (simp [isAgg] at hag)
          rw [this]; exact R.flat v _ hvf hy
        · rw [List.drop_eq_nil_of_le (by omega)]; simp
    obtain ⟨z, hz1, hz2⟩ := hnew
    refine ⟨z, hz1, ?_, fun q u hq => ?_⟩
    · have : z.cells.toList.length = sz := by rw [hz2]; simp [hys]; omega
      simpa using this
    · have hq' : (y0.cells.toList.take f ++ (a.eval x).cells.toList ++ y0.cells.toList.drop (f + n))[q]? = some u := by rw [← hz2]; simpa using hq
      have hqlt : q < sz := by
        have := (List.getElem?_eq_some_iff.1 hq').1
        simp [hys] at this; omega
      have hprq : pr b (0 + j * sz + q) := by
        have : ∃ z0, y0.cells[q]? = some z0 := ⟨y0.cells[q]'(by simpa [← p2] using hqlt), by simp⟩
        obtain ⟨z0, hz0⟩ := this
        exact (p3 q z0 hz0).1.2
      have hone : u.oneCell' = true := by
        have := List.mem_of_getElem? hq'
        simp only [List.mem_append] at this
        rcases this with (hz | hz) | hz
        · exact c2 u (List.mem_of_mem_take hz)
        · exact r2 u hz
        · exact c2 u (List.mem_of_mem_drop hz)
      refine ⟨⟨?_, hprq⟩, hone⟩
      show (w.setRow b cur').cell? _ = _
      rw [Nat.zero_add, hcell, hget]
      simp only [List.getElem?_append, List.length_append, List.length_take, hy0, hylen, List.getElem?_take, List.getElem?_drop] at hq'
      have hmin : min f sz = f := by omega
      rw [hmin] at hq'
      by_cases d1 : q < f
      · rw [if_pos (by omega : q < f + n), if_pos d1, if_pos d1] at hq'
        rw [if_pos (by omega)]
        have := (p3 q u (by simpa using hq')).1.1
        rw [Nat.zero_add] at this
        change w.cell? _ = _ at this
        rwa [hcell0] at this
      · by_cases d2 : q < f + n
        · rw [if_pos d2, if_neg d1] at hq'
          rw [if_neg (by omega), if_pos (by omega)]
          rw [show j * sz + q - (j * sz + f) = q - f from by omega]
          exact hq'
        · rw [if_neg d2] at hq'
          rw [if_neg (by omega), if_neg (by omega)]
          rw [show f + n + (q - (f + n)) = q from by omega] at hq'
          have := (p3 q u (by simpa using hq')).1.1
          rw [Nat.zero_add] at this
          change w.cell? _ = _ at this
          rwa [hcell0] at this
  · rw [if_neg hij] at hi
    obtain ⟨y, p1, p2, p3⟩ := hrr.get i ri hi
    refine ⟨y, R.flat ri y (flatL_mem hfr ri (List.mem_of_getElem? hi)) p1, p2, fun q z hq => ?_⟩
    obtain ⟨p4, p5⟩ := p3 q z hq
    refine ⟨⟨?_, p4.2⟩, p5⟩
    have hqlt : q < sz := by
      have := (Array.getElem?_eq_some_iff.1 hq).1
      omega
    have p41 : w.cell? ⟨b, 0 + i * sz + q, none⟩ = some z := p4.1
    show (w.setRow b cur').cell? _ = _
    rw [hcell, hget]
    rw [hcell0] at p41
    rw [Nat.zero_add] at p41 ⊢
    rcases Nat.lt_or_ge i j with d | d
    · have : (i + 1) * sz ≤ j * sz := Nat.mul_le_mul_right _ d
      rw [Nat.add_mul, Nat.one_mul] at this
      rw [if_pos (by omega)]; exact p41
    · have : (j + 1) * sz ≤ i * sz := Nat.mul_le_mul_right _ (by omega)
      rw [Nat.add_mul, Nat.one_mul] at this
      rw [if_neg (by omega), if_neg (by omega)]; exact p41
theorem flatC_rep (z : Value) : ∀ (n j : Nat), (flatC (List.replicate n z))[j]? = if j < n * z.cells.size then z.cells[j % z.cells.size]? else none
  | 0, j => by simp [flatC]
  | n + 1, j => by
    have e : flatC (List.replicate (n + 1) z) = z.cells.toList ++ flatC (List.replicate n z) := by simp [flatC, List.replicate_succ]
    rw [e, List.getElem?_append, flatC_rep z n]
    rw [Nat.add_mul, Nat.one_mul]
    have hl : z.cells.toList.length = z.cells.size := by simp
    rw [hl]
    by_cases h : j < z.cells.size
    · rw [if_pos h, if_pos (by omega), Nat.mod_eq_of_lt h]; simp
    · rw [if_neg h]
      have hm : (j - z.cells.size) % z.cells.size = j % z.cells.size := (Nat.mod_eq_sub_mod (by omega)).symm
      rw [hm]
      by_cases h2 : j - z.cells.size < n * z.cells.size
      · rw [if_pos h2, if_pos (by omega)]
      · rw [if_neg h2, if_neg (by omega)]
theorem opok_makeSlice {o : Oper} {K : St → Prop} {t e : TypeId} {xl xc : Operand} {kl kc : IntKind} {l c : Int} {sz by' tk : Nat} {zv : V} (ho : o.op = .makeSlice t xl xc) (hl : st.eval xl = .int kl l) (hc : st.eval xc = .int kc c) (ht : P.underlying t = some (.slice e))
    (hsz : sizeT P e = some sz) (hby : bytesT P e = some by') (hz : zeroT P e = some zv) (hzs : zv.csize = some sz) (h0 : 0 ≤ l) (hlc : l ≤ c) (hb : (by' : Int) * c ≤ 281474976710656) (hm : c ≤ maxLen) (htk : tcl tk = 0)
    (hd : ∀ d, o.dst = some d → d < n') (hk : K ((st.clear tk).put o.dst (.list (List.replicate l.toNat zv)) (some (tk, e)))) : OpOK P n' o st K := by
  intro F a w pr lam hF h next Q hn
  subst hF
  obtain ⟨i, z, i1, i2, i3, i4, i5⟩ := infoT hsz hby hz
  have hl' := h.eval xl
  have hc' := h.eval xc
  rw [hl] at hl'; rw [hc] at hc'
  simp only [R] at hl' hc'
  have hzR := R_constV ⟨w, pr, lam⟩ z
  rw [i5] at hzR
  have hzc : z.cells.size = sz := hzR.csize hzs
  have hcn : c.toNat ≤ maxLen := by omega
  have hrun := Go.run_make (P := P) w t e i z ht i1 i4 kl kc l c h0 hlc (by rw [i3]; exact hb) (by simp only [maxLen] at hm; omega)
  rw [i2] at hrun
  have hex : (execOp a.eval o).run P w = .ok (.value (.slice (some ⟨w.heap.size, 0, none⟩) l.toNat c.toNat)) (w.alloc (.cells (Go.madeCells z.cells (c.toNat * sz)) e)) := by
    simp only [execOp, ho, hl', hc']
    simp [hrun]
  unfold Oper.wp
  rw [hex, Oper.upon_value]
  have hrl : RL ⟨w, pr, lam⟩ (List.replicate l.toNat zv) (List.replicate l.toNat z) := by
    refine RL.of_get (by simp) fun q u x hu hx => ?_
    rw [List.getElem?_replicate] at hu hx
    split at hu
    · cases hu
      rw [if_pos ‹_›] at hx
      cases hx
      exact hzR
    · cases hu
  have hll : (flatC (List.replicate l.toNat z)).length = l.toNat * sz := by
    rw [flatC_length (k := sz) (by intro y hy; rw [List.mem_replicate] at hy; rw [hy.2]; exact hzc)]; simp
  obtain ⟨q1, q2⟩ := R_newRow (sz := sz) (cap := c.toNat) (e := e) (fz := (0, 0)) (lam := lam) (rows := List.replicate l.toNat zv) (ys := List.replicate l.toNat z) (arr := Go.madeCells z.cells (c.toNat * sz)) h.prlt
    ((Below.refl _ w).alloc (Nat.le_refl _) (.cells (Go.madeCells z.cells (c.toNat * sz)) e)) (DLE.of_eq rfl) (by simp) (heap_alloc_new w _) hrl (by intro y hy; rw [List.mem_replicate] at hy; rw [hy.2]; exact hzc)
    (fun u hu => by
      obtain ⟨j, hj⟩ := List.mem_iff_getElem?.1 hu
      rw [flatC_rep] at hj
      split at hj
      · obtain ⟨_, c2⟩ := hzR.cells hzs
        exact c2 u (by simpa using Array.mem_of_getElem? hj)
      · cases hj)
    (fun j u hj => by
      rw [flatC_rep] at hj
      split at hj
      · rename_i hjl
        rw [hzc] at hjl hj
        have hle : l.toNat * sz ≤ c.toNat * sz := Nat.mul_le_mul_right _ (by omega)
        have hjc : j < c.toNat * sz := by omega
        simp only [Go.madeCells, Array.getElem?_map, hzc]
        rw [Array.getElem?_range, if_pos hjc]
        simp only [Option.map_some, Option.some.injEq]
        rw [getElem!_def, hj]
      · cases hj)
    (by simp; omega) hcn
  refine hn _ _ _ _ lam hk (((h.ext q1).clear tk).put hd (by simpa using q2) ?_)
  refine TokOk.fresh h q1 tk (by omega) (fun g hg => ?_)
  have hgg : g = w.heap.size := by
    simp only [gblock] at hg
    split at hg
    · cases hg; rfl
    · cases hg
  subst hgg
  refine ⟨Nat.le_refl _, l.toNat, c.toNat, _, sz, rfl, heap_alloc_new w _, hsz, Go.size_madeCells _ _, fun o ho' hp => ?_⟩
  rcases hp with hp | ⟨_, hp⟩
  · have := h.prlt _ _ hp; omega
  · rw [hll] at hp; omega
end
end Go.Eng
