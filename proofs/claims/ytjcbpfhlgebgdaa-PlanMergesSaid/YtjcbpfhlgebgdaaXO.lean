import Derived.Test.YtjcbpfhlgebgdaaX9
import Derived.ChangeMaps5
import Derived.Deep.Slices
import Derived.OpenShut
set_option linter.unusedSimpArgs false
set_option linter.unusedVariables false
namespace Go.X
open Go.Eng Go.RowKit Go.ChangeShapes Go.WideShapes
mutual
def fit : V → Prop
  | .int k n => (Lit.int k n).wf = true
  | .str s => s.length ≤ maxLen
  | .agg cs => fitL cs
  | .list rs => rs.length ≤ maxLen ∧ fitL rs
  | _ => True
def fitL : List V → Prop
  | [] => True
  | v :: vs => fit v ∧ fitL vs
end
theorem fitL_append : ∀ (a b : List V), fitL a → fitL b → fitL (a ++ b)
  | [], _, _, h => h
  | x :: a, b, h, k => ⟨h.1, fitL_append a b h.2 k⟩
inductive Lf where
  | int (k : IntKind)
  | bool
  | str
def Lf.Is : Lf → V → Prop
  | .int k, v => ∃ n, v = .int k n
  | .bool, v => ∃ b, v = .bool b
  | .str, v => ∃ s, v = .str s
def LfL : List Lf → List V → Prop
  | [], vs => vs = []
  | l :: ls, vs => ∃ v vs', vs = v :: vs' ∧ l.Is v ∧ LfL ls vs'
theorem LfL.append : ∀ {a b : List Lf} {x y : List V}, LfL a x → LfL b y → LfL (a ++ b) (x ++ y)
  | [], _, _, _, h, k => by cases h; exact k
  | l :: a, b, x, y, h, k => by
    obtain ⟨v, vs, rfl, h1, h2⟩ := h
    exact ⟨v, vs ++ y, rfl, h1, h2.append k⟩
mutual
def leaves (P : Program) : Nat → TypeId → Option (List Lf)
  | 0, _ => none
  | n + 1, t => match P.underlying t with
    | some (.int k) => some [.int k]
    | some .bool => some [.bool]
    | some .string => some [.str]
    | some (.struct fs) => (leavesF P n fs.toList 0).bind fun ls => if P.cellsOf t = ls.length then some ls else none
    | some (.array m e) => (leaves P n e).bind fun l => if P.cellsOf t = m * l.length ∧ P.cellsOf e = l.length then some (List.replicate m l).flatten else none
    | _ => none
def leavesF (P : Program) : Nat → List Field → Nat → Option (List Lf)
  | _, [], _ => some []
  | 0, _ :: _, _ => none
  | n + 1, f :: fs, o => (leaves P n f.type).bind fun l => if f.offset = o ∧ P.cellsOf f.type = l.length then (leavesF P n fs (o + l.length)).map (l ++ ·) else none
end
theorem RL.append {E : Env} : ∀ {a b : List V} {x y : List Value}, RL E a x → RL E b y → RL E (a ++ b) (x ++ y)
  | [], _, x, _, h, k => by simp only [RL] at h; subst h; exact k
  | v :: a, b, x, y, h, k => by
    simp only [RL] at h
    obtain ⟨z, zs, rfl, h1, h2⟩ := h
    simp only [List.cons_append, RL]
    exact ⟨z, zs ++ y, rfl, h1, RL.append h2 k⟩
def Cs (E : Env) (ls : List Lf) (cs : List Value) : Prop := cs.length = ls.length ∧ ∃ vs, LfL ls vs ∧ RL E vs cs ∧ fitL vs ∧ ∀ y ∈ cs, y.oneCell' = true
theorem Cs.append {E : Env} {a b : List Lf} {x y : List Value} (h : Cs E a x) (k : Cs E b y) : Cs E (a ++ b) (x ++ y) := by
  obtain ⟨h0, vs, h1, h2, h3, h4⟩ := h
  obtain ⟨k0, us, k1, k2, k3, k4⟩ := k
  refine ⟨by simp [h0, k0], vs ++ us, h1.append k1, RL.append h2 k2, fitL_append _ _ h3 k3, fun z hz => ?_⟩
  rcases List.mem_append.1 hz with hz | hz
  · exact h4 z hz
  · exact k4 z hz
theorem Cs.nil {E : Env} : Cs E [] [] := ⟨rfl, [], rfl, by simp [RL], trivial, fun y hy => by cases hy⟩
section
variable {H : Type} {enc : TypeId × Value → H} {P : Program} {w : World} {base : Nat} {spare : Nat → Bool} {held : Bool}
mutual
theorem cs_of_trod (E : Env) : ∀ (n : Nat) (t : TypeId) (ls : List Lf), leaves P n t = some ls → ∀ (fuel : Nat) (cs : List Value) (x : DataW H × List MemPlace), DataW.trod enc P w base spare held fuel t cs = some x → Cs E ls cs
  | 0, _, _, h, _, _, _, _ => by simp [leaves] at h
  | n + 1, t, ls, h, fuel, cs, x, hx => by
    unfold leaves at h
    split at h
    · rename_i k hk
      cases h
      obtain ⟨m, rfl, _, hw⟩ := DataW.trod_int hk hx
      exact ⟨rfl, [.int k m], ⟨_, _, rfl, ⟨m, rfl⟩, rfl⟩, by simp [RL, R], ⟨hw, trivial⟩, by simp [Value.oneCell']⟩
    · rename_i hk
      cases h
      obtain ⟨b, rfl, _⟩ := DataW.trod_bool hk hx
      exact ⟨rfl, [.bool b], ⟨_, _, rfl, ⟨b, rfl⟩, rfl⟩, by simp [RL, R], ⟨trivial, trivial⟩, by simp [Value.oneCell']⟩
    · rename_i hk
      cases h
      obtain ⟨s, rfl, _, hs⟩ := DataW.trod_string hk hx
      exact ⟨rfl, [.str s.data.toList], ⟨_, _, rfl, ⟨_, rfl⟩, rfl⟩, by simp [RL, R]; exact hs, ⟨by simpa [fit] using hs, trivial⟩, by simp [Value.oneCell']⟩
    · rename_i fs hk
      obtain ⟨xs, m, _, _, hl, hfs, hf⟩ := DataW.trod_struct hk hx
      cases hq : leavesF P n fs.toList 0 with
      | none => rw [hq] at h; cases h
      | some ls' =>
        rw [hq] at h
        simp only [Option.bind_some] at h
        split at h
        · rename_i hc
          cases h
          have := cs_of_fields E n fs.toList 0 ls hq cs (by omega) (fun i f hi => by
            have hi' : fs[i]? = some f := by simpa using hi
            have := hf i f hi'
            have hlt : i < xs.length := by rw [hfs]; exact (Array.getElem?_eq_some_iff.1 hi').1
            exact ⟨m, xs[i], by rw [this]; simp [hlt]⟩)
          simpa using this
        · cases h
    · rename_i m e hk
      obtain ⟨xs, m', _, _, hl, hxs, hf⟩ := DataW.trod_array hk hx
      cases hq : leaves P n e with
      | none => rw [hq] at h; cases h
      | some l =>
        rw [hq] at h
        simp only [Option.bind_some] at h
        split at h
        · rename_i hc
          cases h
          have key : ∀ (j : Nat) (cs : List Value), cs.length = j * l.length → (∀ i, i < j → Cs E l ((cs.drop (i * l.length)).take l.length)) → Cs E (List.replicate j l).flatten cs := by
            intro j
            induction j with
            | zero => intro cs h0 _; have : cs = [] := List.eq_nil_of_length_eq_zero (by omega); subst this; simpa using Cs.nil
            | succ j ih =>
              intro cs h0 h1
              rw [List.replicate_succ, List.flatten_cons, ← List.take_append_drop l.length cs]
              refine Cs.append (by simpa using h1 0 (by omega)) (ih _ (by rw [List.length_drop, h0, Nat.succ_mul]; omega) fun i hi => ?_)
              have := h1 (i + 1) (by omega)
              rw [List.drop_drop]
              rwa [Nat.succ_mul, Nat.add_comm] at this
          refine key m cs (by omega) fun i hi => ?_
          have := hf i hi
          rw [hc.2] at this
          have hlt : i < xs.length := by omega
          exact cs_of_trod E n e l hq m' _ xs[i] (by rw [this]; simp [hlt])
        · cases h
    · cases h
theorem cs_of_fields (E : Env) : ∀ (n : Nat) (fs : List Field) (o : Nat) (ls : List Lf), leavesF P n fs o = some ls → ∀ (cs : List Value), cs.length = o + ls.length →
    (∀ (i : Nat) (f : Field), fs[i]? = some f → ∃ (m : Nat) (x : DataW H × List MemPlace), DataW.trod enc P w base spare held m f.type ((cs.drop f.offset).take (P.cellsOf f.type)) = some x) → Cs E ls (cs.drop o)
  | n, [], o, ls, h, cs, hl, _ => by
    have : leavesF P n [] o = some [] := by cases n <;> simp [leavesF]
    rw [this] at h
    cases h
    rw [List.drop_of_length_le (by simpa using Nat.le_of_eq hl)]
    exact Cs.nil
  | 0, _ :: _, o, ls, h, _, _, _ => by simp [leavesF] at h
  | n + 1, f :: fs, o, ls, h, cs, hl, hf => by
    unfold leavesF at h
    cases hq : leaves P n f.type with
    | none => rw [hq] at h; cases h
    | some l =>
      rw [hq] at h
      simp only [Option.bind_some] at h
      split at h
      · rename_i hc
        cases hr : leavesF P n fs (o + l.length) with
        | none => rw [hr] at h; cases h
        | some ls' =>
          rw [hr] at h
          cases h
          have hl' : cs.length = o + l.length + ls'.length := by rw [hl, List.length_append]; omega
          obtain ⟨m, x, hx⟩ := hf 0 f rfl
          rw [hc.1, hc.2] at hx
          have h1 := cs_of_trod E n f.type l hq _ _ _ hx
          have h2 := cs_of_fields E n fs (o + l.length) ls' hr cs hl' (fun i g hi => hf (i + 1) g (by simpa using hi))
          rw [← List.drop_drop] at h2
          have := h1.append h2
          rwa [List.take_append_drop] at this
      · cases h
end
end
def mk (ag : Bool) (vs : List V) : V := if ag then .agg vs else vs.headD .any
def isAg (P : Program) (t : TypeId) : Option Bool := match P.underlying t with
  | some (.int _) | some .bool | some .string => some false
  | some (.struct _) | some (.array ..) => some true
  | _ => none
def flatT (P : Program) (t : TypeId) : Option (Bool × List Lf) := match isAg P t, leaves P 24 t with
  | some ag, some ls => if P.cellsOf t = ls.length ∧ 0 < ls.length ∧ (ag = false → ls.length = 1) then some (ag, ls) else none
  | _, _ => none
theorem flatT_of {P : Program} {t : TypeId} {ag : Bool} {ls : List Lf} (h : flatT P t = some (ag, ls)) : isAg P t = some ag ∧ leaves P 24 t = some ls ∧ P.cellsOf t = ls.length ∧ 0 < ls.length ∧ (ag = false → ls.length = 1) := by
  unfold flatT at h
  split at h
  · rename_i a l h1 h2
    split at h
    · rename_i hc
      cases h
      exact ⟨h1, h2, hc⟩
    · cases h
  · cases h
theorem Cs.value {E : Env} {ag : Bool} {ls : List Lf} {cs : List Value} (h : Cs E ls cs) (hag : ag = false → ls.length = 1) :
    ∃ vs y, LfL ls vs ∧ R E (mk ag vs) y ∧ fit (mk ag vs) ∧ y.cells = cs.toArray ∧ (ag = false → cs = [y]) ∧ (ag = true → y = .agg cs.toArray) := by
  obtain ⟨h0, vs, h1, h2, h3, h4⟩ := h
  cases ag with
  | true => exact ⟨vs, .agg cs.toArray, h1, by simp only [mk, if_true, R]; exact ⟨cs, rfl, h2, h4⟩, by simpa [mk, fit] using h3, by simp [Value.cells], by simp, fun _ => rfl⟩
  | false =>
    have hl := hag rfl
    match ls, hl, h0, h1 with
    | [l], _, h0, h1 =>
      match cs, h0 with
      | [c], _ =>
        obtain ⟨v, vs', rfl, hv, rfl⟩ := h1
        simp only [RL] at h2
        obtain ⟨y, ys, e, hy, rfl⟩ := h2
        cases e
        have hc : c.oneCell' = true := h4 c (by simp)
        refine ⟨[v], c, ⟨v, [], rfl, hv, rfl⟩, by simpa [mk] using hy, by simpa [mk] using h3.1, ?_, fun _ => rfl, by simp⟩
        cases c <;> simp_all [Value.oneCell', Value.cells]
section
variable {H : Type} {enc : TypeId × Value → H} {P : Program} {w : World} {held : Bool}
def E0 (w : World) : Env := ⟨w, fun b _ => b < w.heap.size, fun _ => none⟩
theorem rr_of (ag : Bool) (ls : List Lf) (hag : ag = false → ls.length = 1) (b : Nat) (hb : b < w.heap.size) : ∀ (n o : Nat), (∀ i, i < n → ∃ cs, (∀ j, j < ls.length → w.cell? ⟨b, o + i * ls.length + j, none⟩ = cs[j]?) ∧ Cs (E0 w) ls cs) →
    ∃ rows : List V, rows.length = n ∧ RR (E0 w) b ls.length o rows ∧ fitL rows ∧ ∀ r ∈ rows, ∃ vs, r = mk ag vs ∧ LfL ls vs
  | 0, o, _ => ⟨[], rfl, by simp [RR], trivial, fun r hr => by cases hr⟩
  | n + 1, o, h => by
    obtain ⟨cs, h1, h2⟩ := h 0 (by omega)
    obtain ⟨rows, r1, r2, r3, r4⟩ := rr_of ag ls hag b hb n (o + ls.length) fun i hi => by
      obtain ⟨cs, h1, h2⟩ := h (i + 1) (by omega)
      refine ⟨cs, fun j hj => ?_, h2⟩
      rw [← h1 j hj]
      congr 2
      rw [Nat.succ_mul]
      omega
    have hlen := h2.1
    obtain ⟨vs, y, k1, k2, k3, k4, _, _⟩ := h2.value hag
    obtain ⟨_, _, _, _, _, hone⟩ := h2
    refine ⟨mk ag vs :: rows, by simp [r1], ?_, ⟨k3, r3⟩, fun r hr => ?_⟩
    · simp only [RR]
      refine ⟨⟨y, k2, by rw [k4]; simpa using hlen, fun j z hz => ?_⟩, r2⟩
      rw [k4] at hz
      have hz' : cs[j]? = some z := by simpa using hz
      have hj : j < ls.length := by rw [← hlen]; exact (List.getElem?_eq_some_iff.1 hz').1
      have := h1 j hj
      rw [Nat.zero_mul, Nat.add_zero, hz'] at this
      exact ⟨⟨this, hb⟩, hone z (List.mem_of_getElem? hz')⟩
    · rcases List.mem_cons.1 hr with rfl | hr
      · exact ⟨vs, rfl, k1⟩
      · exact r4 r hr
theorem open_list {r : Reach} {b0 : Nat} {t e : TypeId} {ag : Bool} {ls : List Lf} {v : Value} {d : DataW H} {ps : List MemPlace} (ht : P.underlying t = some (.slice e)) (he : flatT P e = some (ag, ls))
    (hval : Value.okWide P w r b0 t v) (hd : DataW.Trod enc P w 0 (fun _ => true) held t v d ps) : ∃ rows, R (E0 w) (.list rows) v ∧ fit (.list rows) ∧ ∀ r ∈ rows, ∃ vs, r = mk ag vs ∧ LfL ls vs := by
  obtain ⟨h1, h2, h3, h4, h5⟩ := flatT_of he
  obtain ⟨a0, len, cap, rfl⟩ := okWide_slice ht hval
  obtain ⟨fuel, hf⟩ := hd
  rcases Go.Deep.open_slice ht hf with ⟨hcs, _⟩ | ⟨a, len', cap', m, n, D, Pl, hcs, _, hl, hm, hmm, _, hel⟩
  · simp [Value.cells] at hcs
    obtain ⟨rfl, rfl, rfl⟩ := hcs
    exact ⟨[], by simp only [R]; exact ⟨none, 0, rfl, Nat.le_refl _, by simp [maxLen], .inl ⟨trivial, rfl⟩⟩, ⟨by simp, trivial⟩, fun r hr => by cases hr⟩
  · simp [Value.cells] at hcs
    obtain ⟨rfl, rfl, rfl⟩ := hcs
    simp only [if_true] at hmm
    subst hmm
    by_cases hc0 : m = 0
    · have : len = 0 := by omega
      subst this
      exact ⟨[], by simp only [R]; exact ⟨some a, m, rfl, Nat.zero_le _, hm, .inl ⟨trivial, hc0⟩⟩, ⟨by simp, trivial⟩, fun r hr => by cases hr⟩
    · obtain ⟨b, off, spot⟩ := a
      have hspot : spot = none := by
        obtain ⟨cs, g1, _⟩ := hel 0 (by omega)
        obtain ⟨_, gl, gc⟩ := World.cells?_some g1
        have g := gc 0 (by omega)
        have hlt : 0 < cs.length := by omega
        rw [List.getElem?_eq_getElem hlt] at g
        simp only [Nat.zero_mul] at g
        simpa [Addr.add] using World.cell?_spot g
      subst hspot
      have each : ∀ i, i < len → ∃ cs, (∀ j, j < ls.length → w.cell? ⟨b, off + i * ls.length + j, none⟩ = cs[j]?) ∧ Cs (E0 w) ls cs := fun i hi => by
        obtain ⟨cs, g1, g2⟩ := hel i (by omega)
        obtain ⟨_, gl, gc⟩ := World.cells?_some g1
        refine ⟨cs, fun j hj => ?_, cs_of_trod (E0 w) 24 e ls h2 _ _ _ g2⟩
        have := gc j (by omega)
        rw [h3, add_plain, add_plain] at this
        exact this
      have hb : b < w.heap.size := by
        obtain ⟨cs, g1, g2⟩ := hel 0 (by omega)
        obtain ⟨_, gl, gc⟩ := World.cells?_some g1
        have := gc 0 (by omega)
        rw [add_plain, add_plain, List.getElem?_eq_getElem (by omega)] at this
        simp only [World.cell?] at this
        split at this
        · rename_i h1; exact (Array.getElem?_eq_some_iff.1 h1).1
        · cases this
      obtain ⟨rows, r1, r2, r3, r4⟩ := rr_of ag ls h5 b hb len off each
      exact ⟨rows, by simp only [R]; exact ⟨some ⟨b, off, none⟩, m, by rw [r1], by rw [r1]; exact hl, hm, .inr ⟨b, off, ls.length, rfl, r2⟩⟩, ⟨by rw [r1]; omega, r3⟩, r4⟩
end
theorem map_of {α : Type} {f : α → V} {p : V → Prop} (h : ∀ r, p r → ∃ x, r = f x) : ∀ rows : List V, (∀ r ∈ rows, p r) → ∃ xs : List α, rows = xs.map f
  | [], _ => ⟨[], rfl⟩
  | r :: rows, k => by
    obtain ⟨x, rfl⟩ := h r (k r (by simp))
    obtain ⟨xs, rfl⟩ := map_of h rows fun r hr => k r (by simp [hr])
    exact ⟨x :: xs, rfl⟩
end Go.X
