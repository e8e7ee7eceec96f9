import Derived.Test.YtjcbpfhlgebgdaaE9
import Derived.Maps.Own
set_option linter.unusedSimpArgs false
set_option linter.unusedVariables false
namespace Go.Eng
open Go.RowKit
def isAgg : V → Bool
  | .agg _ => true
  | _ => false
def keyT (P : Program) (t : TypeId) : Option (Bool × List CK) :=
  match aggT P t, layT P 20 t with
  | some ag, some ks => some (ag, ks)
  | _, _ => none
def keyCells : List CK → List V → Prop
  | [], [] => True
  | .int k :: ks, .int k' n :: cs => (k' = k ∧ k.wrap n = n) ∧ keyCells ks cs
  | .bool :: ks, .bool _ :: cs => keyCells ks cs
  | .str :: ks, .str _ :: cs => keyCells ks cs
  | _, _ => False
def keyOK (ag : Bool) (ks : List CK) (v : V) : Prop := isAgg v = ag ∧ v.csize = some ks.length ∧ keyCells ks v.cellsL
structure KeyT (P : Program) (kt : TypeId) : Prop where
  keyed : Maps.Keyed P kt
  key : ∀ ag ks, keyT P kt = some (ag, ks) → ∀ (E : Env) (v : V) (x : Value), keyOK ag ks v → R E v x → ∃ l, keyOf P kt x = some l
def keyEq (a b : V) : Bool := eqV a.cellsL b.cellsL
def mapGet : List V → V → Option V
  | [], _ => none
  | c :: cs, x => match c with
    | .tup [k, v] => if keyEq k x then some v else mapGet cs x
    | _ => mapGet cs x
def mapPut : List V → V → V → List V
  | [], x, u => [.tup [x, u]]
  | c :: cs, x, u => match c with
    | .tup [k, _] => if keyEq k x then .tup [x, u] :: cs else c :: mapPut cs x u
    | _ => c :: mapPut cs x u
def keysOK (ag : Bool) (ks : List CK) : List V → Prop
  | [] => True
  | c :: cs => (∃ k v, c = .tup [k, v] ∧ keyOK ag ks k) ∧ keysOK ag ks cs
theorem keyCells_kind : ∀ {ks : List CK} {cs : List V}, keyCells ks cs → cs.map kindV = ks.map some
  | [], [], _ => rfl
  | [], c :: _, h => by cases c <;> simp [keyCells] at h
  | k :: _, [], h => by cases k <;> simp [keyCells] at h
  | k :: ks, c :: cs, h => by
    cases k <;> cases c <;> simp [keyCells] at h
    · obtain ⟨⟨rfl, _⟩, h⟩ := h; simp [kindV, keyCells_kind h]
    · simp [kindV, keyCells_kind h]
    · simp [kindV, keyCells_kind h]
theorem eqC_iff : ∀ {ks : List CK} {xs ys : List Value}, confC ks xs → confC ks ys → (eqC xs ys = true ↔ xs = ys)
  | [], xs, ys, h, k => by
    have h1 := h.length; have k1 := k.length
    simp at h1 k1
    subst h1; subst k1
    simp [eqC]
  | kd :: ks, xs, ys, h, k => by
    cases xs with
    | nil => simp [confC] at h
    | cons x xs =>
      cases ys with
      | nil => simp [confC] at k
      | cons y ys =>
        simp only [confC, List.map_cons, List.cons.injEq] at h k
        have ih := eqC_iff (ks := ks) h.2 k.2
        simp only [eqC, Bool.and_eq_true, ih, List.cons.injEq]
        have q1 := h.1; have q2 := k.1
        have : cellEqC x y = true ↔ x = y := by
          cases x <;> simp [kindC] at q1 <;> subst q1 <;> cases y <;> simp [kindC] at q2
          · simp [cellEqC]
          · subst q2; simp [cellEqC]
          · simp only [cellEqC, beq_iff_eq, Value.string.injEq]
            constructor
            · intro h
              rw [ByteArray.toList_eq, ByteArray.toList_eq] at h
              exact ByteArray.ext (Array.ext' h)
            · rintro rfl; rfl
        rw [this]
theorem R.agg_shape {E : Env} {v : V} {x : Value} {n : Nat} (h : R E v x) (hn : v.csize = some n) : (isAgg v = true → x = .agg x.cells) ∧ (isAgg v = false → x.cells = #[x]) := by
  cases v <;> simp [V.csize] at hn <;> simp only [R] at h
  case agg cs =>
    obtain ⟨xs, rfl, _⟩ := h
    exact ⟨fun _ => rfl, fun q => by simp [isAgg] at q⟩
  all_goals refine ⟨fun q => by simp [isAgg] at q, fun _ => ?_⟩
  · subst h; rfl
  · subst h; rfl
  · obtain ⟨rfl, _⟩ := h; rfl
  · obtain ⟨b, _, rfl⟩ := h; rfl
  · obtain ⟨b, o, rfl, _⟩ := h; rfl
  · subst h; rfl
  · obtain ⟨b, c, rfl, _⟩ := h; rfl
  · obtain ⟨b, c, rfl, _⟩ := h; rfl
  · subst h; rfl
  · obtain ⟨b, rfl, _⟩ := h; rfl
  · subst h; rfl
  · obtain ⟨b, _, rfl⟩ := h; rfl
  · subst h; rfl
  · obtain ⟨b, rfl⟩ := h; rfl
theorem key_iff {E : Env} {ag : Bool} {ks : List CK} {k x : V} {kv xv : Value} (hk : R E k kv) (hx : R E x xv) (ok : keyOK ag ks k) (ox : keyOK ag ks x) : (keyEq k x = true ↔ kv = xv) := by
  obtain ⟨ok1, ok2, ok3⟩ := ok
  obtain ⟨ox1, ox2, ox3⟩ := ox
  have rk := (hk.cells ok2).1
  have rx := (hx.cells ox2).1
  have e := RL_eq rk rx (keyCells_kind ok3) (keyCells_kind ox3)
  unfold keyEq
  rw [← e, eqC_iff (RL_kind rk (keyCells_kind ok3)) (RL_kind rx (keyCells_kind ox3))]
  have sk := hk.agg_shape ok2
  have sx := hx.agg_shape ox2
  constructor
  · intro h
    have h' : kv.cells = xv.cells := Array.ext' h
    cases ag with
    | true => rw [sk.1 ok1, sx.1 ox1, h']
    | false =>
      have a := sk.2 ok1
      have b := sx.2 ox1
      rw [a, b] at h'
      simpa using h'
  · rintro rfl; rfl
theorem RM.get_none {E : Env} {ag : Bool} {ks : List CK} {x : V} {xv : Value} (hx : R E x xv) (ox : keyOK ag ks x) : ∀ {cs : List V} {es : List MapEntry}, RM E cs es → keysOK ag ks cs → (∀ e ∈ es, e.key ≠ xv) →
    mapGet cs x = none ∧ ∀ u, mapPut cs x u = cs ++ [.tup [x, u]]
  | [], _, _, _, _ => ⟨rfl, fun _ => rfl⟩
  | c :: cs, es, h, ok, hne => by
    simp only [RM] at h
    obtain ⟨k, v, e, es', rfl, rfl, h1, h2, h3⟩ := h
    obtain ⟨⟨k', v', hc, okk⟩, ok'⟩ := ok
    simp only [V.tup.injEq, List.cons.injEq, and_true] at hc
    obtain ⟨rfl, rfl⟩ := hc
    have hk : keyEq k x = false := by
      rw [Bool.eq_false_iff]
      intro q
      exact hne e (by simp) ((key_iff h1 hx okk ox).1 q)
    obtain ⟨i1, i2⟩ := RM.get_none hx ox h3 ok' fun e he => hne e (by simp [he])
    simp [mapGet, mapPut, hk, i1, i2]
theorem RM.get_some {E : Env} {ag : Bool} {ks : List CK} {x : V} {xv : Value} (hx : R E x xv) (ox : keyOK ag ks x) : ∀ {cs : List V} {es : List MapEntry} {j : Nat} {e : MapEntry}, RM E cs es → keysOK ag ks cs →
    (es.map (·.key)).Nodup → es[j]? = some e → e.key = xv →
    (∃ v, mapGet cs x = some v ∧ R E v e.val) ∧ ∀ u uv, R E u uv → RM E (mapPut cs x u) (es.set j { e with key := xv, val := uv })
  | [], es, j, e, h, _, _, he, _ => by simp only [RM] at h; subst h; simp at he
  | c :: cs, es, j, e, h, ok, hnd, he, hkey => by
    simp only [RM] at h
    obtain ⟨k, v, e0, es', rfl, rfl, h1, h2, h3⟩ := h
    obtain ⟨⟨k', v', hc, okk⟩, ok'⟩ := ok
    simp only [V.tup.injEq, List.cons.injEq, and_true] at hc
    obtain ⟨rfl, rfl⟩ := hc
    simp only [List.map_cons, List.nodup_cons] at hnd
    cases j with
    | zero =>
      simp at he; subst he
      have hk : keyEq k x = true := (key_iff h1 hx okk ox).2 hkey
      refine ⟨⟨v, by simp [mapGet, hk], h2⟩, fun u uv hu => ?_⟩
      simp only [mapPut, hk, if_true, List.set_cons_zero, RM]
      exact ⟨x, u, _, _, rfl, rfl, hx, hu, h3⟩
    | succ j =>
      simp at he
      have hne : e0.key ≠ xv := by
        intro q
        apply hnd.1
        rw [q, ← hkey]
        exact List.mem_map.2 ⟨e, List.mem_of_getElem? he, rfl⟩
      have hk : keyEq k x = false := by
        rw [Bool.eq_false_iff]
        exact fun q => hne ((key_iff h1 hx okk ox).1 q)
      obtain ⟨⟨v1, i1, i2⟩, i3⟩ := RM.get_some hx ox h3 ok' hnd.2 he hkey
      refine ⟨⟨v1, by simp [mapGet, hk, i1], i2⟩, fun u uv hu => ?_⟩
      simp only [mapPut, hk, Bool.false_eq_true, if_false, List.set_cons_succ, RM]
      exact ⟨k, v, e0, _, rfl, rfl, h1, h2, i3 u uv hu⟩
theorem RM.keys {P : Program} {kt : TypeId} {E : Env} {ag : Bool} {ks : List CK} (K : KeyT P kt) (hk : keyT P kt = some (ag, ks)) : ∀ {cs : List V} {es : List MapEntry}, RM E cs es → keysOK ag ks cs → ∀ e ∈ es, ∃ l, keyOf P kt e.key = some l
  | [], _, h, _, e, he => by simp only [RM] at h; subst h; simp at he
  | c :: cs, es, h, ok, e, he => by
    simp only [RM] at h
    obtain ⟨k, v, e0, es', rfl, rfl, h1, h2, h3⟩ := h
    obtain ⟨⟨k', v', hc, okk⟩, ok'⟩ := ok
    simp only [V.tup.injEq, List.cons.injEq, and_true] at hc
    obtain ⟨rfl, rfl⟩ := hc
    rcases List.mem_cons.1 he with rfl | he
    · exact K.key ag ks hk E k _ okk h1
    · exact RM.keys K hk h3 ok' e he
theorem RM.append {E : Env} {c : V} {e : MapEntry} (hc : RM E [c] [e]) : ∀ {cs : List V} {es : List MapEntry}, RM E cs es → RM E (cs ++ [c]) (es ++ [e])
  | [], es, h => by simp only [RM] at h; subst h; exact hc
  | d :: cs, es, h => by
    simp only [RM] at h
    obtain ⟨k, v, e0, es', rfl, rfl, h1, h2, h3⟩ := h
    simp only [List.cons_append, RM]
    exact ⟨k, v, e0, _, rfl, rfl, h1, h2, RM.append hc h3⟩
def mapT (P : Program) (t : TypeId) : Option (TypeId × TypeId) := match P.underlying t with
  | some (.map k e) => some (k, e)
  | _ => none
theorem mapT_spec {P : Program} {t k e : TypeId} (h : mapT P t = some (k, e)) : P.underlying t = some (.map k e) := by
  unfold mapT at h
  split at h
  · rename_i q; cases h; exact q
  · cases h
section
variable {P : Program} {o : Oper} {ρ : Operand → V} {bx : Nat → Option Box}
theorem qv_lookup {t kt et : TypeId} {m x : Operand} {ok ag : Bool} {ks : List CK} {i : Nat} {B : Box} {zv : V} (ho : o.op = .lookup t m x ok) (hm : ρ m = .mref i) (hb : bx i = some B) (hty : mapTy ≤ B.ty) (hT : mapT P t = some (kt, et))
    (hk : keyT P kt = some (ag, ks)) (K : KeyT P kt) (ox : keyOK ag ks (ρ x)) (oks : keysOK ag ks B.cells) (hz : zeroT P et = some zv) :
    QV P o ρ bx (if ok then .tup [(mapGet B.cells (ρ x)).getD zv, .bool (mapGet B.cells (ρ x)).isSome] else (mapGet B.cells (ρ x)).getD zv) none :=
  QV.pure fun a w pr lam h hB => by
    have h1 := h m (by simp [ho, Op.operands])
    have h2 := h x (by simp [ho, Op.operands])
    rw [hm] at h1
    simp only [R] at h1
    obtain ⟨b, hl, e⟩ := h1
    obtain ⟨b', hl', hat⟩ := hB i B hb
    obtain rfl : b = b' := by simpa [hl] using hl'
    obtain ⟨es, clock, hg, hr, hst⟩ := hat.map hty
    change w.heap[b]? = _ at hg
    obtain ⟨kl, hkl⟩ := K.key ag ks hk _ _ _ ox h2
    obtain ⟨iz, z, z1, z2, rfl⟩ := zeroT_spec hz
    have hzero : (zeroValue et).run P w = .ok z w := by simp [zeroValue, typeInfo, z1, z2]
    have hrz : R ⟨w, pr, lam⟩ (constV z) z := R_constV _ z
    have hu := mapT_spec hT
    have hkeys := RM.keys K hk hr oks
    rcases K.keyed.find w hkl es.toList hkeys with ⟨f1, f2⟩ | ⟨j, e0, f1, f2, f3⟩
    · obtain ⟨g1, _⟩ := RM.get_none h2 ox hr oks f2
      refine ⟨if ok then .tuple #[z, .bool false] else z, ?_, ?_⟩
      · simp only [execOp, ho, e]
        simp [Instr.lookup, run_underlying hu, MapKept.run_getObj_map hg, K.keyed.check w _ hkl, f1, hzero, Result.andThen]
      · rw [g1]
        cases ok
        · exact hrz
        · simp only [if_true, R, Option.getD_none, Option.isSome_none]
          exact ⟨[z, .bool false], rfl, by simp only [RL]; exact ⟨_, _, rfl, hrz, _, _, rfl, by simp [R], rfl⟩⟩
    · obtain ⟨⟨v, g1, g2⟩, _⟩ := RM.get_some h2 ox hr oks hst.2.2 f2 f3
      refine ⟨if ok then .tuple #[e0.val, .bool true] else e0.val, ?_, ?_⟩
      · simp only [execOp, ho, e]
        simp [Instr.lookup, run_underlying hu, MapKept.run_getObj_map hg, K.keyed.check w _ hkl, f1, Result.andThen]
      · rw [g1]
        cases ok
        · exact g2
        · simp only [if_true, R, Option.getD_some, Option.isSome_some]
          exact ⟨[e0.val, .bool true], rfl, by simp only [RL]; exact ⟨_, _, rfl, g2, _, _, rfl, by simp [R], rfl⟩⟩
variable {n' : Nat} {st : St}
theorem opok_makeMap {K : St → Prop} {t : TypeId} {i : Nat} (ho : o.op = .makeMap t none) (hi : st.box i = none) (hd : ∀ d, o.dst = some d → d < n')
    (hk : K ((st.setBox i ⟨[], mapTy + t⟩).put o.dst (.mref i) none)) : OpOK P n' o st K := by
  intro F a w pr lam hF h next Q hn
  subst hF
  have hr : (execOp a.eval o).run P w = .ok (.value (.map (some w.heap.size))) (w.alloc (.map #[] 0)) := by
    simp [execOp, ho, run_makeMap]
  unfold Oper.wp
  rw [hr, Oper.upon_value]
  refine hn _ _ _ pr (upd lam i (some w.heap.size)) hk ((h.newObj hi fun E hle hg => ⟨fun ht => absurd ht (by simp), fun _ => ⟨#[], 0, hg, by simp [RM], MapKept.stamped_empty 0⟩⟩).put hd ?_ trivial)
  simp only [R]
  exact ⟨w.heap.size, by simp, rfl⟩
theorem opok_mapUpdate {K : St → Prop} {t kt et : TypeId} {m x y : Operand} {ag : Bool} {ks : List CK} {i : Nat} {B : Box} (ho : o.op = .mapUpdate t m x y) (hm : st.eval m = .mref i) (hb : st.box i = some B) (hty : mapTy ≤ B.ty)
    (hT : mapT P t = some (kt, et)) (hkt : keyT P kt = some (ag, ks)) (KT : KeyT P kt) (ox : keyOK ag ks (st.eval x)) (oks : keysOK ag ks B.cells) (hd : o.dst = none)
    (hk : K (st.setBox i ⟨mapPut B.cells (st.eval x) (st.eval y), B.ty⟩)) : OpOK P n' o st K := by
  intro F a w pr lam hF h next Q hn
  have h1 := h.eval m
  have h2 := h.eval x
  have h3 := h.eval y
  rw [hm] at h1
  simp only [R] at h1
  obtain ⟨b, hl, e⟩ := h1
  obtain ⟨b', hl', hat, hnp, _⟩ := h.box i B hb
  obtain rfl : b = b' := by rw [show lam i = some b from hl] at hl'; cases hl'; rfl
  obtain ⟨es, clock, hg, hr, hst⟩ := hat.map hty
  change w.heap[b]? = _ at hg
  have hu := mapT_spec hT
  obtain ⟨kl, hkl⟩ := KT.key ag ks hkt _ _ _ ox h2
  have hkeys := RM.keys KT hkt hr oks
  have hsw : ∀ ob, Swap w { w with heap := w.heap.setIfInBounds b ob } b := fun ob => ⟨rfl, rfl, rfl, DLE.of_eq rfl, by simp, fun k hk => by
    show (w.heap.setIfInBounds b ob)[k]? = _
    rw [Array.getElem?_setIfInBounds_ne (Ne.symm hk)]⟩
  have hnew : ∀ ob, (w.heap.setIfInBounds b ob)[b]? = some ob := fun ob => by
    have hlt := (Array.getElem?_eq_some_iff.1 hg).1
    simp [hlt]
  have fin : ∀ es' clock', (Instr.mapUpdate t (.map (some b)) (a.eval x) (a.eval y)).run P w = .ok () { w with heap := w.heap.setIfInBounds b (.map es' clock') } →
      (∀ E : Env, Env.Le ⟨w, pr, lam⟩ E → RM E (mapPut B.cells (st.eval x) (st.eval y)) es'.toList) → MapKept.Stamped es' clock' → o.wp P a w next Q := by
    intro es' clock' hrun hrm hst'
    have hr : (execOp a.eval o).run P w = .ok .skip { w with heap := w.heap.setIfInBounds b (.map es' clock') } := by
      simp only [execOp, ho, e]
      simp [hrun]
    unfold Oper.wp
    rw [hr, Oper.upon_skip, hd]
    exact hn _ _ _ pr lam hk (h.setObj hb hl (hsw _) fun hle => ⟨fun ht => absurd hty (Nat.not_le.2 ht), fun _ => ⟨es', clock', hnew _, hrm _ hle, hst'⟩⟩)
  rcases KT.keyed.find w hkl es.toList hkeys with ⟨f1, f2⟩ | ⟨j, e0, f1, f2, f3⟩
  · obtain ⟨_, g2⟩ := RM.get_none h2 ox hr oks f2
    refine fin (es.push { key := a.eval x, val := a.eval y, born := clock }) (clock + 1) ?_ ?_ (MapKept.stamped_push hst f2)
    · simp [Instr.mapUpdate, run_underlying hu, MapKept.run_getObj_map hg, KT.keyed.check w false hkl, f1, MapKept.run_setObj_map _ hg, Result.andThen]
    · intro E hle
      rw [g2, Array.toList_push]
      refine RM.append ?_ (hr.mono hle)
      simp only [RM]
      exact ⟨_, _, _, _, rfl, rfl, h2.mono hle, h3.mono hle, rfl⟩
  · obtain ⟨_, g2⟩ := RM.get_some h2 ox hr oks hst.2.2 f2 f3
    have hj : es[j]? = some e0 := by simpa using f2
    have hlist : (es.modify j (fun e' => { e' with key := a.eval x, val := a.eval y })).toList = es.toList.set j { e0 with key := a.eval x, val := a.eval y } := by
      rw [Array.toList_modify, ChangeMaps.modify_eq_set _ _ _ _ f2]
    refine fin (es.modify j (fun e' => { e' with key := a.eval x, val := a.eval y })) clock ?_ ?_ (MapKept.stamped_modify hst j _ (fun _ _ => rfl) (fun e' _ he' => by rw [hj] at he'; cases he'; exact f3.symm))
    · have hke : ((es[j]?).map (·.key)).getD (a.eval x) = a.eval x := by rw [hj]; simpa using f3
      simp [Instr.mapUpdate, run_underlying hu, MapKept.run_getObj_map hg, KT.keyed.check w false hkl, f1, hke, KT.keyed.stays w hkl, MapKept.run_setObj_map _ hg, Result.andThen]
    · intro E hle
      rw [hlist]
      obtain ⟨_, g3⟩ := RM.get_some (h2.mono hle) ox (hr.mono hle) oks hst.2.2 f2 f3
      exact g3 _ _ (h3.mono hle)
end
end Go.Eng
