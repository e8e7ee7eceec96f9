import Derived.Test.YtjcbpfhlgebgdaaX4W
set_option linter.unusedSimpArgs false
set_option linter.unusedVariables false
namespace Go.X
open Go.Eng
open Go.RowKit
theorem keepS_Wk {tk : Nat} {rows' : List V} {x : V × Option (Nat × TypeId)} (h : ∀ e, x.2 ≠ some (tk, e)) : Wk (keepS tk rows' x) x := by
  rcases keepS_cases tk rows' x with ⟨e, q, _⟩ | q | ⟨q, _⟩
  · exact absurd q (h e)
  · exact .inr (.inr q)
  · exact .inl q
open Classical in
theorem SRel.bear {P : Program} {F : Fr} {st : St} {a : Act} {w : World} {pr : Nat → Nat → Prop} {lam : Nat → Option Nat} (h : SRel P F st a w pr lam) {ss tk : Nat} {e : TypeId} {rows : List V} (hs : st.env ss = .list rows) (ht : st.tok ss = some (tk, e)) (hcl : tcl tk = 0) :
    SRel P F ⟨st.nb, fun s => if ∃ e', (st.sl s).2 = some (tk, e') then (.list rows, (st.sl s).2) else st.sl s, st.box⟩ a w pr lam := by
  have htok : ∀ s, (⟨st.nb, fun s => if ∃ e', (st.sl s).2 = some (tk, e') then (.list rows, (st.sl s).2) else st.sl s, st.box⟩ : St).tok s = st.tok s := by
    intro s
    show (if _ then _ else _ : V × Option (Nat × TypeId)).2 = (st.sl s).2
    split <;> rfl
  refine ⟨h.size, h.defers, fun s => ?_, fun s t e hq => h.own s t e (htok s ▸ hq), fun s s' t t' e e' g h1 h2 => h.coh s s' t t' e e' g (htok s ▸ h1) (htok s' ▸ h2), h.box, h.inj, fun i B b s t e hB hl hq => h.apart i B b s t e hB hl (htok s ▸ hq), h.nolam, h.prlt, h.keep, h.prsub, h.prnew, h.lamsub,
    fun s s' t e e' h1 h2 => h.coh2 s s' t e e' (htok s ▸ h1) (htok s' ▸ h2), fun s t e' hq h2 => ?_, fun s s' t e e' b o g h1 h2 => h.ptr s s' t e e' b o g (htok s ▸ h1) (htok s' ▸ h2)⟩
  · show R _ (if _ then _ else _ : V × Option (Nat × TypeId)).1 _
    split
    · rename_i hex
      obtain ⟨e', hq⟩ := hex
      have hv := h.coh2 s ss tk e' e hq ht hcl
      have := h.env ss
      rw [hs, ← hv] at this
      exact this
    · exact h.env s
  · show R _ (if _ then _ else _ : V × Option (Nat × TypeId)).1 _
    rw [htok s] at hq
    rw [if_neg]
    · exact h.old s t e' hq h2
    · rintro ⟨e'', hq'⟩
      have hq2 : (st.sl s).2 = some (t, e') := hq
      rw [hq2] at hq'
      cases hq'
      omega
open Classical in
theorem sorted_nil {st : St} {tk : Nat} (s : Nat) : Wk ((st.changed tk []).sl s) ((⟨st.nb, fun s => if ∃ e', (st.sl s).2 = some (tk, e') then (.list [], (st.sl s).2) else st.sl s, st.box⟩ : St).sl s) := by
  show Wk (keepS tk [] (st.sl s)) (if _ then _ else _)
  split
  · rename_i hex
    obtain ⟨e', hq⟩ := hex
    refine .inl ?_
    unfold keepS
    rw [hq]
    simp
  · rename_i hex
    exact keepS_Wk fun e' hq => hex ⟨e', hq⟩
theorem run_equalIn_sn {P : Program} (w : World) (d : Nat) (t e : TypeId) (a : Option Addr) (l c : Nat) (h : P.underlying t = some (.slice e)) : (Op.equalIn (d + 1) t (.slice a l c) (.slice none 0 0)).run P w = .ok a.isNone w := by
  cases a <;> simp [Op.equalIn, run_underlying h]
theorem run_equal_sn {P : Program} (w : World) (t e : TypeId) (a : Option Addr) (l c : Nat) (h : P.underlying t = some (.slice e)) : (Op.equal t (.slice a l c) (.slice none 0 0)).run P w = .ok a.isNone w := run_equalIn_sn w 9999 t e a l c h
theorem opok_eqnil {P : Program} {n' : Nat} {o : Oper} {st : St} {K : St → Prop} {op : BinOp} {t u e : TypeId} {x : Operand} {rows : List V} {w : Bool} (ho : o.op = .binOp op t x (.const (.slice none 0 0)) u) (hop : (op = .eql ∧ w = false) ∨ (op = .neq ∧ w = true)) (hT : P.underlying t = some (.slice e))
    (hx : st.eval x = .list rows) (hd : ∀ d, o.dst = some d → d < n') (hk : ∀ b : Bool, (rows ≠ [] → b = w) → K (st.put o.dst (.bool b) none)) : OpOK P n' o st K := by
  intro F a w0 pr lam hF h next Q hn
  subst hF
  have h1 := h.eval x
  rw [hx] at h1
  simp only [R] at h1
  obtain ⟨base, cap, e1, _, _, hb⟩ := h1
  have key : ∃ b : Bool, (rows ≠ [] → b = w) ∧ (execOp a.eval o).run P w0 = .ok (.value (.bool b)) w0 := by
    have hbase : rows ≠ [] → base.isNone = false := by
      intro hr
      rcases hb with ⟨h1, _⟩ | ⟨b, o', k, rfl, _⟩
      · exact absurd h1 hr
      · rfl
    rcases hop with ⟨rfl, rfl⟩ | ⟨rfl, rfl⟩
    · refine ⟨base.isNone, hbase, ?_⟩
      have he := run_equal_sn w0 t e base rows.length cap hT
      have e2 : a.eval (.const (.slice none 0 0)) = .slice none 0 0 := rfl
      simp [execOp, ho, e1, e2, eqGuard, binOp, he]
    · refine ⟨!base.isNone, fun hr => by rw [hbase hr]; rfl, ?_⟩
      have he := run_equal_sn w0 t e base rows.length cap hT
      have e2 : a.eval (.const (.slice none 0 0)) = .slice none 0 0 := rfl
      simp [execOp, ho, e1, e2, eqGuard, binOp, he]
  obtain ⟨b, h2, hr⟩ := key
  unfold Oper.wp
  rw [hr, Oper.upon_value]
  exact hn _ _ w0 pr lam (hk b h2) (h.put hd (by simp [R]) trivial)
theorem opok_sort {P : Program} {n' : Nat} {o : Oper} {st : St} {K : St → Prop} {α : Type} {enc : α → V} {sz : Nat} {srt : List α → List α} {d : List α} {f : FuncId} {g : Option FuncId} {ss tk : Nat} {e : TypeId} {c : Operand} {ys : List Operand} {args : Array Operand} {tys : Array TypeId}
    (ho : o.op = .call { callee := .value c, args := args, argTypes := tys }) (ha : args = (Operand.tmp ss :: ys).toArray) (hc : st.eval c = .fn (.func f) [] []) (hy : match g with | none => ys = [] | some g => ∃ y, ys = [y] ∧ st.eval y = .fn (.func g) [] []) (hgo : isGo P f = true)
    (hss : st.env ss = .list (d.map enc)) (htk : st.tok ss = some (tk, e)) (hcl : tcl tk = 0) (hsz : sizeT P e = some sz) (hrows : rowsOK sz (d.map enc)) (hbf : ∀ i B, st.box i = some B → V.flatL B.cells = true)
    (hS : Sorts P f g enc sz srt) (hlt : d.length < 4611686018427387904) (hd : ∀ x, o.dst = some x → x < n') (hk : K ((st.changed tk ((srt d).map enc)).put o.dst (.tup []) none)) : OpOK P n' o st K := by
  intro F a w pr lam hF h next Q hn
  subst hF
  subst ha
  have h1 := h.eval c
  rw [hc] at h1
  simp only [R] at h1
  obtain ⟨xs, ys, e1, q1, q2⟩ := h1
  simp only [RL] at q1 q2
  subst q1; subst q2
  have hargs : (([] : List Value).toArray ++ ((Operand.tmp ss :: ys).toArray).map a.eval ++ ([] : List Value).toArray) = sArgs (a.tmps.getD ss undef) g := by
    have e3 : a.eval (.tmp ss) = a.tmps.getD ss undef := rfl
    cases g with
    | none =>
      subst hy
      simp only [List.map_toArray, List.map_cons, List.map_nil, e3, List.append_toArray, List.nil_append, List.append_nil, sArgs]
    | some g =>
      obtain ⟨y, rfl, hy⟩ := hy
      have h2 := h.eval y
      rw [hy] at h2
      simp only [R] at h2
      obtain ⟨xs, ys, e2, q1, q2⟩ := h2
      simp only [RL] at q1 q2
      subst q1; subst q2
      simp only [List.map_toArray, List.map_cons, List.map_nil, e2, e3, List.append_toArray, List.nil_append, List.append_nil, sArgs]
  unfold Oper.wp
  rw [exec_call ho e1 hgo, Oper.upon_enter, hargs]
  by_cases hne : d = []
  · subst hne
    have hR := h.env ss
    rw [hss] at hR
    simp only [List.map_nil, R] at hR
    obtain ⟨base, cap, hv, _⟩ := hR
    rw [hv]
    refine (hS.nil w pr base cap h.hl).mono ?_
    rintro en w' ⟨rfl, hb, hdl⟩
    have hext : Ext w pr w' pr := ⟨hb, hdl, fun _ _ h => h, fun _ _ h => .inl h⟩
    have hsr : srt [] = [] := List.eq_nil_of_length_eq_zero (hS.len [])
    rw [hsr] at hk
    have hw := SRel.weak (SRel.bear (h.ext hext) hss htk hcl) (nb' := st.nb) (sl' := (st.changed tk []).sl) sorted_nil
    refine hn _ _ w' pr lam hk (SRel.put (st := st.changed tk []) hw hd ?_ trivial)
    simp [R, RL]
  · have hne' : d.map enc ≠ [] := by simpa using hne
    obtain ⟨blk, cap, cur, hvs, hcp, hm, hg, hN, hgb, hcs, hrr, hpr⟩ := h.own0 hss htk hcl hsz hrows hne'
    rw [hvs]
    rw [List.length_map] at hcp hvs ⊢
    have hgl : ∀ k vs, GL k = some vs → blk ≠ k := fun k vs hq => F.mine_gl hN hq
    refine (hS.row w pr lam blk cap d cur e h.hl hgl hne hcp hm hlt hgb hcs hrr).mono ?_
    rintro en w' ⟨rfl, w1, cur', hsw, hgb', hsize, hrr', hb, hdl⟩
    have hlen : ((srt d).map enc).length = (d.map enc).length := by simp [hS.len]
    have hch := h.changed (sz := sz) htk hcl (by rw [List.length_map]; exact hvs) hg hN hsw hgb hgb' hsize hbf hlen (by rw [List.length_map]; exact hcp) hm hrr'
    have hext : Ext w1 pr w' pr := ⟨hb, hdl, fun _ _ h => h, fun _ _ h => .inl h⟩
    refine hn _ _ w' pr lam hk ((hch.ext hext).put hd ?_ trivial)
    simp [R, RL]
end Go.X
