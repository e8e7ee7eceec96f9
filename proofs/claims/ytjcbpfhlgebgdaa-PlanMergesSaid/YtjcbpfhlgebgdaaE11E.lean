import Derived.Test.YtjcbpfhlgebgdaaE11
import Derived.WideKeyEntry
set_option linter.unusedSimpArgs false
set_option linter.unusedVariables false
namespace Go.Eng
open Go.RowKit
section
variable {P : Program} {w : World} {t kt et : TypeId} {b : Nat} {es : Array MapEntry} {clock : Nat}
open Go.WideElems in
theorem ent_run (K : Maps.Keyed P kt) (ht : P.underlying t = some (.map kt et)) {z : Value} (hz : ∀ u : World, (zeroValue et).run P u = .ok z u) (hb : w.heap[b]? = some (.map es clock))
    (hst : MapKept.Stamped es clock) (hkeys : ∀ e ∈ es.toList, ∃ l, keyOf P kt e.key = some l) {key : Value} {kl : Lit} (hkey : keyOf P kt key = some kl) :
    ∃ (v0 : Value) (st : Nat) (es1 : Array MapEntry) (clock1 : Nat), (Instr.mapEntry t (.map (some b)) key).run P w = .ok (.tuple #[v0, goInt st]) { w with heap := w.heap.setIfInBounds b (.map es1 clock1) } ∧
      (Instr.lookup t (.map (some b)) key false).run P w = .ok v0 w ∧ (∀ w2 : World, w2.heap[b]? = some (.map es1 clock1) → (Instr.lookup t (.map (some b)) key false).run P w2 = .ok v0 w2) ∧
      ∀ (w2 : World) (val : Value), w2.heap[b]? = some (.map es1 clock1) → ∃ es' clock', (Instr.entryStore t (.map (some b)) (goInt st) val).run P w2 = .ok () { w2 with heap := w2.heap.setIfInBounds b (.map es' clock') } ∧
        (Instr.mapUpdate t (.map (some b)) key val).run P w = .ok () { w with heap := w.heap.setIfInBounds b (.map es' clock') } := by
  obtain ⟨s1, s2, s3⟩ := hst
  have look : ∀ (u : World) (es1 : Array MapEntry) (clock1 : Nat) (j : Nat) (e1 : MapEntry), u.heap[b]? = some (.map es1 clock1) → (∀ e ∈ es1.toList, ∃ l, keyOf P kt e.key = some l) → es1.toList[j]? = some e1 → e1.key = key → (es1.toList.map (·.key)).Nodup →
      (Instr.lookup t (.map (some b)) key false).run P u = .ok e1.val u := by
    intro u es1 clock1 j e1 hu hk1 hj hkey1 hnd
    rcases K.find u hkey es1.toList hk1 with ⟨h1, h2⟩ | ⟨j', e0, h1, h2, h3⟩
    · exact absurd hkey1 (h2 e1 (List.mem_of_getElem? hj))
    · have hjj : j' = j := by
        have q1 : (es1.toList.map (·.key))[j']? = some key := by rw [List.getElem?_map, h2]; simp [h3]
        have q2 : (es1.toList.map (·.key))[j]? = some key := by rw [List.getElem?_map, hj]; simp [hkey1]
        have l1 := (List.getElem?_eq_some_iff.1 q1)
        have l2 := (List.getElem?_eq_some_iff.1 q2)
        rcases Nat.lt_trichotomy j' j with q | q | q
        · exact absurd (l1.2.trans l2.2.symm) (List.pairwise_iff_getElem.1 hnd _ _ l1.1 l2.1 q)
        · exact q
        · exact absurd (l2.2.trans l1.2.symm) (List.pairwise_iff_getElem.1 hnd _ _ l2.1 l1.1 q)
      subst hjj
      rw [hj] at h2
      cases h2
      simp [Instr.lookup, run_underlying ht, MapKept.run_getObj_map hu, K.check u _ hkey, h1, Result.andThen]
  have hnd0 : (es.toList.map (·.key)).Nodup := s3
  rcases K.find w hkey es.toList hkeys with ⟨h1, h2⟩ | ⟨j, e0, h1, h2, h3⟩
  · refine ⟨z, clock, es.push ⟨key, z, clock⟩, clock + 1, ?_, ?_, ?_, fun w2 val hw2 => ⟨es.push ⟨key, val, clock⟩, clock + 1, ?_, ?_⟩⟩
    · simp [Instr.mapEntry, run_underlying ht, MapKept.run_getObj_map hb, K.check w false hkey, h1, hz, MapKept.run_setObj_map _ hb, Result.andThen]
    · simp [Instr.lookup, run_underlying ht, MapKept.run_getObj_map hb, K.check w _ hkey, h1, hz, Result.andThen]
    · intro w2 hw2
      refine look w2 _ _ es.size ⟨key, z, clock⟩ hw2 (fun e he => ?_) (by simp) rfl ?_
      · rw [Array.toList_push] at he
        rcases List.mem_append.1 he with he | he
        · exact hkeys e he
        · simp at he; subst he; exact ⟨_, hkey⟩
      · rw [Array.toList_push, List.map_append]
        refine List.nodup_append.2 ⟨hnd0, by simp, fun a ha c hc e1 => ?_⟩
        simp only [List.map_cons, List.map_nil, List.mem_singleton] at hc
        obtain ⟨x, hx, rfl⟩ := List.mem_map.1 ha
        exact h2 x hx (e1.trans hc)
    · have hidx : (es.push ⟨key, z, clock⟩).findIdx? (fun e => ((e.born : Nat) : Int) == ((clock : Nat) : Int)) = some es.size := by
        rw [findIdx_arr]
        have := findIdx_born (l := (es.push ⟨key, z, clock⟩).toList) (j := es.size) (e0 := ⟨key, z, clock⟩) (by
          simp only [Array.toList_push, List.map_append, List.map_cons, List.map_nil]
          refine List.nodup_append.2 ⟨s2, by simp, fun a ha c hc e1 => ?_⟩
          simp only [List.mem_singleton] at hc
          obtain ⟨x, hx, rfl⟩ := List.mem_map.1 ha
          have := s1 x hx
          omega) (by simp)
        exact this
      have hmod : (es.push ⟨key, z, clock⟩).modify es.size (fun e => { e with val := val }) = es.push ⟨key, val, clock⟩ := by
        apply Array.ext'
        rw [Array.toList_modify, Array.toList_push, Array.toList_push, ← Array.length_toList, modify_last]
      simp [Instr.entryStore, MapKept.run_getObj_map hw2, asInt, asIntOf, goInt, hidx, hmod, MapKept.run_setObj_map _ hw2, Result.andThen]
    · simp [Instr.mapUpdate, run_underlying ht, MapKept.run_getObj_map hb, K.check w false hkey, h1, MapKept.run_setObj_map _ hb, Result.andThen]
  · have hj : es[j]? = some e0 := by simpa using h2
    have hsame : es.modify j (fun e => { e with key := key }) = es := by
      apply Array.ext'
      rw [Array.toList_modify, ChangeMaps.modify_eq_set _ _ _ _ h2]
      have : ({ e0 with key := key } : MapEntry) = e0 := by rw [← h3]
      rw [this]
      exact set_self _ _ _ h2
    refine ⟨e0.val, e0.born, es, clock, ?_, look w es clock j e0 hb hkeys h2 h3 hnd0, fun w2 hw2 => look w2 es clock j e0 hw2 hkeys h2 h3 hnd0, fun w2 val hw2 => ⟨es.modify j (fun e' => { e' with key := key, val := val }), clock, ?_, ?_⟩⟩
    · simp [Instr.mapEntry, run_underlying ht, MapKept.run_getObj_map hb, K.check w false hkey, h1, hj, h3, K.stays w hkey, hsame, MapKept.run_setObj_map _ hb, Result.andThen]
    · have hidx : es.findIdx? (fun e => ((e.born : Nat) : Int) == ((e0.born : Nat) : Int)) = some j := by
        rw [findIdx_arr]
        exact findIdx_born s2 h2
      have hmod : es.modify j (fun e => { e with val := val }) = es.modify j (fun e' => { e' with key := key, val := val }) := by
        apply Array.ext'
        rw [Array.toList_modify, Array.toList_modify, ChangeMaps.modify_eq_set _ _ _ _ h2, ChangeMaps.modify_eq_set _ _ _ _ h2, ← h3]
      simp [Instr.entryStore, MapKept.run_getObj_map hw2, asInt, asIntOf, goInt, hidx, hmod, MapKept.run_setObj_map _ hw2, Result.andThen]
    · simp [Instr.mapUpdate, run_underlying ht, MapKept.run_getObj_map hb, K.check w false hkey, h1, hj, h3, K.stays w hkey, MapKept.run_setObj_map _ hb, Result.andThen]
end
section
variable {P : Program} {n' : Nat} {st : St} {K : St → Prop}
theorem eval_put_ne {a : Act} {d : Nat} {v : Value} {x : Operand} (h : x ≠ .tmp d) : (a.put (some d) v).eval x = a.eval x := by
  cases x with
  | tmp s =>
    have hne : d ≠ s := fun e => h (by rw [e])
    simp only [Act.eval, Act.put, Array.getD_eq_getD_getElem?]
    rw [Array.getElem?_setIfInBounds_ne hne]
  | const v => rfl
  | global g => rfl
  | func f => rfl
theorem eval_put_eq {a : Act} {d : Nat} {v : Value} (h : d < a.tmps.size) : (a.put (some d) v).eval (.tmp d) = v := by
  simp [Act.eval, Act.put, h]
theorem Act.put_comm (a : Act) {d e : Nat} (v u : Value) (h : d ≠ e) : (a.put (some d) v).put (some e) u = (a.put (some e) u).put (some d) v := by
  simp only [Act.put]
  rw [Array.setIfInBounds_comm _ _ h]
theorem ent5 {o2 o3 o4 o5 o6 : Oper} {t kt et xT yT : TypeId} {op : BinOp} {m x : Operand} {d2 d3 d4 d5 : Nat} {ag : Bool} {ks : List CK} {i : Nat} {B : Box} {k : IntKind} {n c y : Int} {zv : V}
    (h2 : o2.op = .lookup t m x false) (h3 : o3.op = .binOp op xT (.tmp d2) (.const (.int k c)) yT) (h4 : o4.op = .mapEntry t m x) (h5 : o5.op = .extract (.tmp d4) 1) (h6 : o6.op = .entryStore t m (.tmp d5) (.tmp d3))
    (hop : binI op k n c = some (.int k y)) (hn2 : d2 < n') (hn3 : d3 < n') (hn4 : d4 < n') (hn5 : d5 < n')
    (hm : st.eval m = .mref i) (hb : st.box i = some B) (hty : mapTy ≤ B.ty) (hT : mapT P t = some (kt, et)) (hz : zeroT P et = some zv) (hv : (mapGet B.cells (st.eval x)).getD zv = .int k n) (hkt : keyT P kt = some (ag, ks)) (KT : KeyT P kt) (ox : keyOK ag ks (st.eval x)) (oks : keysOK ag ks B.cells)
    (hk : K ((((((st.setBox i ⟨mapPut B.cells (st.eval x) (.int k y), B.ty⟩).put (some d2) (.int k n) none).put (some d3) (.int k y) none).put (some d4) .any none).put (some d5) .any none)))
    (F : Fr) (a : Act) (w : World) (pr : Nat → Nat → Prop) (lam : Nat → Option Nat) (hF : F.nt = n') (h : SRel P F st a w pr lam) (Q : Act → World → Prop)
    (hn : ∀ st' a' w' pr' lam', K st' → SRel P F st' a' w' pr' lam' → Q a' w') :
    ∃ (t4 t5 : Value) (w1 w3 : World),
      (∀ a' : Act, a'.eval m = a.eval m → a'.eval x = a.eval x → (execOp a'.eval o2).run P w = .ok (.value (.int k n)) w ∧ (execOp a'.eval o2).run P w1 = .ok (.value (.int k n)) w1 ∧ (execOp a'.eval o4).run P w = .ok (.value t4) w1) ∧
      (∀ (a' : Act) (u : World), a'.eval (.tmp d2) = .int k n → (execOp a'.eval o3).run P u = .ok (.value (.int k y)) u) ∧
      (∀ (a' : Act) (u : World), a'.eval (.tmp d4) = t4 → (execOp a'.eval o5).run P u = .ok (.value t5) u) ∧
      (∀ a' : Act, a'.eval m = a.eval m → a'.eval (.tmp d3) = .int k y → a'.eval (.tmp d5) = t5 → (execOp a'.eval o6).run P w1 = .ok .skip w3) ∧
      Q ((((a.put (some d2) (.int k n)).put (some d3) (.int k y)).put (some d4) t4).put (some d5) t5) w3 := by
  have g1 := h.eval m
  have g2 := h.eval x
  rw [hm] at g1
  simp only [R] at g1
  obtain ⟨b, hl, e⟩ := g1
  obtain ⟨b', hl', hat, hnp, _⟩ := h.box i B hb
  obtain rfl : b = b' := by rw [show lam i = some b from hl] at hl'; cases hl'; rfl
  obtain ⟨es, clock, hg, hr, hst⟩ := hat.map hty
  change w.heap[b]? = _ at hg
  have hu := mapT_spec hT
  obtain ⟨kl, hkl⟩ := KT.key ag ks hkt _ _ _ ox g2
  have hkeys := RM.keys KT hkt hr oks
  obtain ⟨iz, z, z1, z2, rfl⟩ := zeroT_spec hz
  have hzero : ∀ u : World, (zeroValue et).run P u = .ok z u := fun u => by simp [zeroValue, typeInfo, z1, z2]
  have hrz : R ⟨w, pr, lam⟩ (constV z) z := R_constV _ z
  obtain ⟨v0, stm, es1, clock1, r1, rl, rl1, r2⟩ := ent_run KT.keyed hu hzero hg hst hkeys hkl
  have hv0 : v0 = .int k n := by
    have hr0 : R ⟨w, pr, lam⟩ ((mapGet B.cells (st.eval x)).getD (constV z)) v0 := by
      rcases KT.keyed.find w hkl es.toList hkeys with ⟨f1, f2⟩ | ⟨j, e0, f1, f2, f3⟩
      · obtain ⟨q1, _⟩ := RM.get_none g2 ox hr oks f2
        rw [q1]
        have : (Instr.lookup t (.map (some b)) (a.eval x) false).run P w = .ok z w := by
          simp [Instr.lookup, run_underlying hu, MapKept.run_getObj_map hg, KT.keyed.check w _ hkl, f1, hzero, Result.andThen]
        rw [this] at rl
        cases rl
        exact hrz
      · obtain ⟨⟨v, q1, q2⟩, _⟩ := RM.get_some g2 ox hr oks hst.2.2 f2 f3
        rw [q1]
        have : (Instr.lookup t (.map (some b)) (a.eval x) false).run P w = .ok e0.val w := by
          simp [Instr.lookup, run_underlying hu, MapKept.run_getObj_map hg, KT.keyed.check w _ hkl, f1, Result.andThen]
        rw [this] at rl
        cases rl
        exact q2
    rw [hv] at hr0
    simpa [R] using hr0
  subst hv0
  have hw1 : ({ w with heap := w.heap.setIfInBounds b (.map es1 clock1) } : World).heap[b]? = some (.map es1 clock1) := by
    have hlt := (Array.getElem?_eq_some_iff.1 hg).1
    simp [hlt]
  obtain ⟨es', clock', r3, r4⟩ := r2 { w with heap := w.heap.setIfInBounds b (.map es1 clock1) } (.int k y) hw1
  refine ⟨.tuple #[.int k n, goInt stm], goInt stm, { w with heap := w.heap.setIfInBounds b (.map es1 clock1) }, { w with heap := w.heap.setIfInBounds b (.map es' clock') }, ?_, ?_, ?_, ?_, ?_⟩
  · intro a' em ex
    refine ⟨?_, ?_, ?_⟩
    · simp only [execOp, h2, em, ex, e]; simp [rl]
    · simp only [execOp, h2, em, ex, e]; simp [rl1 _ hw1]
    · simp only [execOp, h4, em, ex, e]; simp [r1]
  · intro a' u e2
    have hq : ∃ v, (execOp a'.eval o3).run P u = .ok (.value v) u ∧ v = .int k y := by
      have e3 : a'.eval (.const (.int k c)) = .int k c := rfl
      cases op <;> simp only [binI, Option.some.injEq, reduceCtorEq, V.int.injEq, true_and] at hop
      case quo =>
        split at hop
        · cases hop
        · rename_i hb
          simp only [Option.some.injEq, V.int.injEq, true_and] at hop; subst hop
          exact ⟨_, by simp [execOp, h3, e2, e3, eqGuard, binOp, Op.intDiv, hb], rfl⟩
      case rem =>
        split at hop
        · cases hop
        · rename_i hb
          simp only [Option.some.injEq, V.int.injEq, true_and] at hop; subst hop
          exact ⟨_, by simp [execOp, h3, e2, e3, eqGuard, binOp, Op.intDiv, hb], rfl⟩
      all_goals subst hop
      case and => exact ⟨_, by simp [execOp, h3, e2, e3, eqGuard, binOp, run_and], rfl⟩
      case or => exact ⟨_, by simp [execOp, h3, e2, e3, eqGuard, binOp, run_or], rfl⟩
      case xor => exact ⟨_, by simp [execOp, h3, e2, e3, eqGuard, binOp, run_xor], rfl⟩
      case andNot => exact ⟨_, by simp [execOp, h3, e2, e3, eqGuard, binOp, run_andNot], rfl⟩
      all_goals exact ⟨_, by simp [execOp, h3, e2, e3, eqGuard, binOp, Op.intArith, Op.intCmp], rfl⟩
    obtain ⟨v, hq, rfl⟩ := hq
    exact hq
  · intro a' u e4
    simp only [execOp, h5, e4]
    simp [Instr.extract]
  · intro a' em e3 e5
    simp only [execOp, h6, em, e3, e5, e]
    simp [r3]
  · -- the store that it is
    let o' : Oper := { o6 with op := .mapUpdate t m x (.const (.int k y)), dst := none }
    have hup : o'.wp P a w (fun a' w' => Q ((((a'.put (some d2) (.int k n)).put (some d3) (.int k y)).put (some d4) (.tuple #[.int k n, goInt stm])).put (some d5) (goInt stm)) w') (fun _ _ _ => True) :=
      opok_mapUpdate (K := fun st' => K (((((st'.put (some d2) (.int k n) none).put (some d3) (.int k y) none).put (some d4) .any none).put (some d5) .any none))) (o := o') rfl hm hb hty hT hkt KT ox oks rfl
        (by have : st.eval (.const (.int k y)) = .int k y := rfl
            rw [this]; exact hk) F a w pr lam hF h _ _ fun st' a' w' pr' lam' hk' hs' =>
        have q2 : SRel P F (st'.put (some d2) (.int k n) none) (a'.put (some d2) (.int k n)) w' pr' lam' := hs'.put (fun d hd => by cases hd; rw [hF]; exact hn2) (by simp [R]) trivial
        have q3 : SRel P F ((st'.put (some d2) (.int k n) none).put (some d3) (.int k y) none) ((a'.put (some d2) (.int k n)).put (some d3) (.int k y)) w' pr' lam' := q2.put (fun d hd => by cases hd; rw [hF]; exact hn3) (by simp [R]) trivial
        have q4 : SRel P F (((st'.put (some d2) (.int k n) none).put (some d3) (.int k y) none).put (some d4) .any none) (((a'.put (some d2) (.int k n)).put (some d3) (.int k y)).put (some d4) (.tuple #[.int k n, goInt stm])) w' pr' lam' := q3.put (fun d hd => by cases hd; rw [hF]; exact hn4) (by simp [R]) trivial
        have q5 : SRel P F ((((st'.put (some d2) (.int k n) none).put (some d3) (.int k y) none).put (some d4) .any none).put (some d5) .any none) ((((a'.put (some d2) (.int k n)).put (some d3) (.int k y)).put (some d4) (.tuple #[.int k n, goInt stm])).put (some d5) (goInt stm)) w' pr' lam' := q4.put (fun d hd => by cases hd; rw [hF]; exact hn5) (by simp [R]) trivial
        hn _ _ w' pr' lam' hk' q5
    have hro : (execOp a.eval o').run P w = .ok .skip { w with heap := w.heap.setIfInBounds b (.map es' clock') } := by
      have ec : a.eval (.const (.int k y)) = .int k y := rfl
      simp only [execOp, o', e, ec]
      simp [r4]
    unfold Oper.wp at hup
    rw [hro, Oper.upon_skip] at hup
    exact hup
end
def mapDel : List V → V → List V
  | [], _ => []
  | c :: cs, x => match c with
    | .tup [k, _] => if keyEq k x then cs else c :: mapDel cs x
    | _ => c :: mapDel cs x
theorem RM.del_none {E : Env} {ag : Bool} {ks : List CK} {x : V} {xv : Value} (hx : R E x xv) (ox : keyOK ag ks x) : ∀ {cs : List V} {es : List MapEntry}, RM E cs es → keysOK ag ks cs → (∀ e ∈ es, e.key ≠ xv) → mapDel cs x = cs
  | [], _, _, _, _ => rfl
  | c :: cs, es, h, ok, hne => by
    simp only [RM] at h
    obtain ⟨k, v, e, es', rfl, rfl, h1, h2, h3⟩ := h
    obtain ⟨⟨k', v', hc, okk⟩, ok'⟩ := ok
    simp only [V.tup.injEq, List.cons.injEq, and_true] at hc
    obtain ⟨rfl, rfl⟩ := hc
    have hk : keyEq k x = false := by
      rw [Bool.eq_false_iff]
      intro q
      exact hne e (by simp) ((key_iff h1 hx okk ox).1 q)
    simp [mapDel, hk, RM.del_none hx ox h3 ok' fun e he => hne e (by simp [he])]
theorem RM.del_some {E : Env} {ag : Bool} {ks : List CK} {x : V} {xv : Value} (hx : R E x xv) (ox : keyOK ag ks x) : ∀ {cs : List V} {es : List MapEntry} {j : Nat} {e : MapEntry}, RM E cs es → keysOK ag ks cs →
    (es.map (·.key)).Nodup → es[j]? = some e → e.key = xv → RM E (mapDel cs x) (es.eraseIdx j)
  | [], es, j, e, h, _, _, he, _ => by simp only [RM] at h; subst h; simp at he
  | c :: cs, es, j, e, h, ok, hnd, he, hkey => by
    simp only [RM] at h
    obtain ⟨k, v, e0, es', rfl, rfl, h1, h2, h3⟩ := h
    obtain ⟨⟨k', v', hc, okk⟩, ok'⟩ := ok
    simp only [V.tup.injEq, List.cons.injEq, and_true] at hc
    obtain ⟨rfl, rfl⟩ := hc
    simp only [List.map_cons, List.nodup_cons] at hnd
    cases j with
    | zero =>
      simp at he; subst he
      have hk : keyEq k x = true := (key_iff h1 hx okk ox).2 hkey
      simp only [mapDel, hk, if_true, List.eraseIdx_cons_zero]
      exact h3
    | succ j =>
      simp at he
      have hne : e0.key ≠ xv := by
        intro q
        apply hnd.1
        rw [q, ← hkey]
        exact List.mem_map.2 ⟨e, List.mem_of_getElem? he, rfl⟩
      have hk : keyEq k x = false := by
        rw [Bool.eq_false_iff]
        exact fun q => hne ((key_iff h1 hx okk ox).1 q)
      simp only [mapDel, hk, Bool.false_eq_true, if_false, List.eraseIdx_cons_succ, RM]
      exact ⟨k, v, e0, _, rfl, rfl, h1, h2, RM.del_some hx ox h3 ok' hnd.2 he hkey⟩
theorem RM.length {E : Env} : ∀ {cs : List V} {es : List MapEntry}, RM E cs es → cs.length = es.length
  | [], es, h => by simp only [RM] at h; subst h; rfl
  | c :: cs, es, h => by
    simp only [RM] at h
    obtain ⟨k, v, e0, es', rfl, rfl, h1, h2, h3⟩ := h
    simp [RM.length h3]
section
variable {P : Program} {n' : Nat} {st : St} {K : St → Prop} {o : Oper}
theorem opok_delete {t kt et t2 : TypeId} {m x : Operand} {ag : Bool} {ks : List CK} {i : Nat} {B : Box} (ho : o.op = .call { callee := .builtin .delete, args := #[m, x], argTypes := #[t, t2] }) (hm : st.eval m = .mref i) (hb : st.box i = some B) (hty : mapTy ≤ B.ty)
    (hT : mapT P t = some (kt, et)) (hkt : keyT P kt = some (ag, ks)) (KT : KeyT P kt) (ox : keyOK ag ks (st.eval x)) (oks : keysOK ag ks B.cells) (hd : o.dst = none)
    (hk : K (st.setBox i ⟨mapDel B.cells (st.eval x), B.ty⟩)) : OpOK P n' o st K := by
  intro F a w pr lam hF h next Q hn
  have h1 := h.eval m
  have h2 := h.eval x
  rw [hm] at h1
  simp only [R] at h1
  obtain ⟨b, hl, e⟩ := h1
  obtain ⟨b', hl', hat, hnp, _⟩ := h.box i B hb
  obtain rfl : b = b' := by rw [show lam i = some b from hl] at hl'; cases hl'; rfl
  obtain ⟨es, clock, hg, hr, hst⟩ := hat.map hty
  change w.heap[b]? = _ at hg
  have hu := mapT_spec hT
  obtain ⟨kl, hkl⟩ := KT.key ag ks hkt _ _ _ ox h2
  have hkeys := RM.keys KT hkt hr oks
  have hsw : ∀ ob, Swap w { w with heap := w.heap.setIfInBounds b ob } b := fun ob => ⟨rfl, rfl, rfl, DLE.of_eq rfl, by simp, fun k hk => by
    show (w.heap.setIfInBounds b ob)[k]? = _
    rw [Array.getElem?_setIfInBounds_ne (Ne.symm hk)]⟩
  have hnew : ∀ ob, (w.heap.setIfInBounds b ob)[b]? = some ob := fun ob => by
    have hlt := (Array.getElem?_eq_some_iff.1 hg).1
    simp [hlt]
  have fin : ∀ es', (Builtin.delete_ #[t, t2] o.type #[.map (some b), a.eval x]).run P w = .ok (.tuple #[]) { w with heap := w.heap.setIfInBounds b (.map es' clock) } →
      (∀ E : Env, Env.Le ⟨w, pr, lam⟩ E → RM E (mapDel B.cells (st.eval x)) es'.toList) → MapKept.Stamped es' clock → o.wp P a w next Q := by
    intro es' hrun hrm hst'
    have hr : (execOp a.eval o).run P w = .ok (.value (.tuple #[])) { w with heap := w.heap.setIfInBounds b (.map es' clock) } := by
      simp only [execOp, ho, resolve, invoke, builtin, Sem.run_bind, Sem.run_pure, Result.andThen_ok, List.map_toArray, List.map_cons, List.map_nil, e]
      simp [hrun]
    unfold Oper.wp
    rw [hr, Oper.upon_value, hd]
    exact hn _ _ _ pr lam hk (h.setObj hb hl (hsw _) fun hle => ⟨fun ht => absurd hty (Nat.not_le.2 ht), fun _ => ⟨es', clock, hnew _, hrm _ hle, hst'⟩⟩)
  rcases KT.keyed.find w hkl es.toList hkeys with ⟨f1, f2⟩ | ⟨j, e0, f1, f2, f3⟩
  · refine fin es ?_ ?_ hst
    · simp [Builtin.delete_, run_underlying hu, MapKept.run_getObj_map hg, KT.keyed.check w _ hkl, f1, MapKept.run_setObj_map _ hg, Result.andThen]
    · intro E hle
      rw [RM.del_none h2 ox hr oks f2]
      exact hr.mono hle
  · have hjl : j < es.toList.length := (List.getElem?_eq_some_iff.1 f2).1
    have hjs : j < es.size := by simpa using hjl
    have hsub : (es.eraseIdxIfInBounds j).toList = es.toList.eraseIdx j := by
      unfold Array.eraseIdxIfInBounds
      rw [dif_pos hjs]
      simp
    refine fin (es.eraseIdxIfInBounds j) ?_ ?_ (MapKept.stamped_erase hst j)
    · simp [Builtin.delete_, run_underlying hu, MapKept.run_getObj_map hg, KT.keyed.check w _ hkl, f1, MapKept.run_setObj_map _ hg, Result.andThen]
    · intro E hle
      rw [hsub]
      exact RM.del_some (h2.mono hle) ox (hr.mono hle) oks hst.2.2 f2 f3
theorem qv_len_map {ρ : Operand → V} {bx : Nat → Option Box} {t kt et : TypeId} {m : Operand} {i : Nat} {B : Box} (ho : o.op = .call { callee := .builtin .len, args := #[m], argTypes := #[t] }) (hm : ρ m = .mref i) (hb : bx i = some B) (hty : mapTy ≤ B.ty)
    (hT : mapT P t = some (kt, et)) : QV P o ρ bx (.int .i64 B.cells.length) none :=
  QV.pure fun a w pr lam h hB => by
    have h1 := h m (by simp [ho, Op.operands, Call.operands])
    rw [hm] at h1
    simp only [R] at h1
    obtain ⟨b, hl, e⟩ := h1
    obtain ⟨b', hl', hat⟩ := hB i B hb
    obtain rfl : b = b' := by simpa [hl] using hl'
    obtain ⟨es, clock, hg, hr, hst⟩ := hat.map hty
    change w.heap[b]? = _ at hg
    have hu := mapT_spec hT
    refine ⟨.int .i64 B.cells.length, ?_, by simp [R]⟩
    simp only [execOp, ho, resolve, invoke, builtin, Sem.run_bind, Sem.run_pure, Result.andThen_ok, List.map_toArray, List.map_cons, List.map_nil, e]
    simp [Builtin.len_, run_underlying hu, MapKept.run_getObj_map hg, goInt, RM.length hr, Result.andThen]
end
end Go.Eng
