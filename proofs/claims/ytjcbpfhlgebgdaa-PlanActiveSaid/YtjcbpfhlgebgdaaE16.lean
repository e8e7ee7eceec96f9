import Derived.Test.YtjcbpfhlgebgdaaE13
import Derived.WideKeyPair
import Derived.DeepKeys4
import Derived.OpenShut
namespace Go.Eng
set_option linter.unusedSimpArgs false
set_option linter.unusedVariables false
open Go.RowKit Go.WideMaps

/-! KEY TYPES -/

theorem wf_of_wrap {k : IntKind} {n : Int} (h : k.wrap n = n) : (Lit.int k n).wf = true := by
  have := wf_wrap k n
  rwa [h] at this

theorem KeyT.int {P : Program} {kt : TypeId} {q : IntKind} (hu : P.underlying kt = some (.int q)) : KeyT P kt := by
  refine ⟨Maps.int_keyed hu, fun ag ks hk E v x ok hr => ?_⟩
  have e : keyT P kt = some (false, [.int q]) := by simp [keyT, aggT, layT, hu]
  rw [e] at hk; cases hk
  obtain ⟨h1, h2, h3⟩ := ok
  cases v <;> simp [isAgg] at h1 <;> simp [V.cellsL, keyCells] at h3
  obtain ⟨rfl, h3⟩ := h3
  simp only [R] at hr; subst hr
  exact ⟨_, Maps.keyOf_int_mk hu (wf_of_wrap h3)⟩

theorem KeyT.str {P : Program} {kt : TypeId} (hu : P.underlying kt = some .string) : KeyT P kt := by
  refine ⟨Maps.string_keyed hu, fun ag ks hk E v x ok hr => ?_⟩
  have e : keyT P kt = some (false, [.str]) := by simp [keyT, aggT, layT, hu]
  rw [e] at hk; cases hk
  obtain ⟨h1, h2, h3⟩ := ok
  cases v <;> simp [isAgg] at h1 <;> simp [V.cellsL, keyCells] at h3
  simp only [R] at hr
  obtain ⟨rfl, hr⟩ := hr
  exact ⟨_, keyOf_string_mk hu (by simpa [ByteArray.size] using hr)⟩

theorem KeyT.pair {P : Program} {kt e : TypeId} {q : IntKind} (A : ArrKey P kt e 2) (he : P.underlying e = some (.int q)) (hsz : ∃ m, P.types.size = m + 1) (K : KeyLaw P kt) (hk0 : keyT P kt = some (true, [.int q, .int q])) : KeyT P kt := by
  refine ⟨.of_law K, fun ag ks hk E v x ok hr => ?_⟩
  rw [hk0] at hk; cases hk
  obtain ⟨h1, h2, h3⟩ := ok
  cases v <;> simp [isAgg] at h1
  rename_i cs
  simp only [V.cellsL] at h3
  match cs, h3 with
  | [.int k0 a, .int k1 b], h3 =>
    simp only [keyCells, and_true] at h3
    obtain ⟨⟨rfl, ha⟩, rfl, hb⟩ := h3
    simp only [R, RL] at hr
    obtain ⟨xs, rfl, hr, _⟩ := hr
    obtain ⟨y, ys, rfl, rfl, y1, ys1, rfl, rfl, rfl⟩ := hr
    exact ⟨_, keyOf_pair A he hsz (wf_of_wrap ha) (wf_of_wrap hb)⟩

/-! Structs (of numbers, bools, strings and structs of such) -/

def cellsW : List CK → List Value → Prop
  | [], [] => True
  | .int k :: ks, .int k' n :: cs => (k' = k ∧ (Lit.int k n).wf = true) ∧ cellsW ks cs
  | .bool :: ks, .bool _ :: cs => cellsW ks cs
  | .str :: ks, .string s :: cs => s.size ≤ maxLen ∧ cellsW ks cs
  | _, _ => False

def klF (P : Program) (g : TypeId → Option (List CK)) : List Field → Nat → Option (List CK)
  | [], _ => some []
  | f :: fs, o => match g f.type with
    | some l => if f.offset = o ∧ P.cellsOf f.type = l.length then (klF P g fs (o + l.length)).map (l ++ ·) else none
    | none => none
def kl (P : Program) : Nat → TypeId → Option (List CK)
  | 0, _ => none
  | d + 1, t => match P.underlying t with
    | some (.int q) => some [.int q]
    | some .bool => some [.bool]
    | some .string => some [.str]
    | some (.struct fs) => match klF P (kl P d) fs.toList 0 with
      | some ks => if P.cellsOf t = ks.length ∧ fs.all (·.name != "_") = true then some ks else none
      | none => none
    | _ => none

theorem cellsW.length : ∀ {ks : List CK} {xs : List Value}, cellsW ks xs → xs.length = ks.length
  | [], [], _ => rfl
  | [], _ :: _, h => by simp [cellsW] at h
  | k :: _, [], h => by cases k <;> simp [cellsW] at h
  | k :: ks, x :: xs, h => by
    cases k <;> cases x <;> simp [cellsW] at h
    · simp [cellsW.length h.2]
    · simp [cellsW.length h]
    · simp [cellsW.length h.2]

theorem cellsW.split : ∀ {a b : List CK} {xs : List Value}, cellsW (a ++ b) xs → cellsW a (xs.take a.length) ∧ cellsW b (xs.drop a.length)
  | [], b, xs, h => ⟨by simp [cellsW], by simpa using h⟩
  | k :: a, b, [], h => by cases k <;> simp [cellsW] at h
  | k :: a, b, x :: xs, h => by
    cases k <;> cases x <;> simp [cellsW] at h <;> simp only [List.length_cons, List.take_succ_cons, List.drop_succ_cons, cellsW]
    · exact ⟨⟨h.1, (cellsW.split h.2).1⟩, (cellsW.split h.2).2⟩
    · exact cellsW.split h
    · exact ⟨⟨h.1, (cellsW.split h.2).1⟩, (cellsW.split h.2).2⟩

theorem klF_each {P : Program} {g : TypeId → Option (List CK)} {cs : List Value} : ∀ (fs : List Field) (o : Nat) (ks : List CK), klF P g fs o = some ks → cellsW ks (cs.drop o) →
    ∀ f ∈ fs, ∃ l, g f.type = some l ∧ cellsW l ((cs.drop f.offset).take (P.cellsOf f.type))
  | [], _, _, _, _, f, hf => by cases hf
  | f0 :: fs, o, ks, h, hc, f, hf => by
    unfold klF at h
    split at h
    · rename_i l hl
      split at h
      · rename_i he
        cases hq : klF P g fs (o + l.length) with
        | none => rw [hq] at h; cases h
        | some ks' =>
          rw [hq] at h
          cases h
          obtain ⟨c1, c2⟩ := cellsW.split hc
          rcases List.mem_cons.1 hf with rfl | hf
          · exact ⟨l, hl, by rw [he.1, he.2]; exact c1⟩
          · exact klF_each fs _ ks' hq (by rw [List.drop_drop] at c2; exact c2) f hf
      · cases h
    · cases h

theorem mapM_some {α β : Type} {g : α → Option β} : ∀ {l : List α}, (∀ x ∈ l, ∃ y, g x = some y) → ∃ ys, l.mapM g = some ys
  | [], _ => ⟨[], by simp⟩
  | x :: l, h => by
    obtain ⟨y, hy⟩ := h x (by simp)
    obtain ⟨ys, hys⟩ := mapM_some (l := l) fun z hz => h z (by simp [hz])
    exact ⟨y :: ys, by simp [hy, hys]⟩

theorem keyLits_some {P : Program} : ∀ (n : Nat) (t : TypeId) (ks : List CK), kl P n t = some ks → ∀ (D : Nat), n ≤ D → ∀ xs : List Value, cellsW ks xs → ∃ ls, P.keyLits D t xs = some ls
  | 0, _, _, h, _, _, _, _ => by simp [kl] at h
  | n + 1, t, ks, h, D, hD, xs, hx => by
    obtain ⟨D, rfl⟩ : ∃ D', D = D' + 1 := ⟨D - 1, by omega⟩
    unfold kl at h
    unfold Program.keyLits
    split at h
    · rename_i q hu
      cases h
      match xs, hx with
      | [.int k m], hx => simp only [cellsW, and_true] at hx; obtain ⟨rfl, hw⟩ := hx; exact ⟨[.int k m], by simp [hu, hw]⟩
    · rename_i hu
      cases h
      match xs, hx with
      | [.bool b], hx => exact ⟨[.bool b], by simp [hu]⟩
    · rename_i hu
      cases h
      match xs, hx with
      | [.string s], hx => simp only [cellsW, and_true] at hx; exact ⟨[.string s.data.toList], by simp [hu, hx]⟩
    · rename_i fs hu
      split at h
      · rename_i ks' hf
        split at h
        · rename_i hc
          cases h
          have hl := hx.length
          obtain ⟨ys, hys⟩ := mapM_some (g := fun f : Field => P.keyLits D f.type ((xs.drop f.offset).take (P.cellsOf f.type))) (l := fs.toList) fun f hm => by
            obtain ⟨l, h1, h2⟩ := klF_each (cs := xs) fs.toList 0 ks hf (by simpa using hx) f hm
            exact keyLits_some n f.type l h1 D (by omega) _ h2
          refine ⟨ys.flatten, ?_⟩
          simp only [hu]
          rw [if_pos ⟨by omega, hc.2⟩, hys]
          rfl
        · cases h
      · cases h
    · cases h

theorem cellsW_of {E : Env} : ∀ {ks : List CK} {cs : List V} {xs : List Value}, keyCells ks cs → RL E cs xs → cellsW ks xs
  | [], [], xs, _, h => by simp only [RL] at h; subst h; trivial
  | [], c :: _, _, h, _ => by cases c <;> simp [keyCells] at h
  | k :: _, [], _, h, _ => by cases k <;> simp [keyCells] at h
  | k :: ks, c :: cs, xs, h, hr => by
    simp only [RL] at hr
    obtain ⟨y, ys, rfl, h1, h2⟩ := hr
    cases k <;> cases c <;> simp [keyCells] at h
    · obtain ⟨⟨rfl, hw⟩, h⟩ := h
      simp only [R] at h1; subst h1
      exact ⟨⟨rfl, wf_of_wrap hw⟩, cellsW_of h h2⟩
    · simp only [R] at h1; subst h1
      simp only [cellsW]
      exact cellsW_of h h2
    · simp only [R] at h1
      obtain ⟨rfl, hs⟩ := h1
      exact ⟨by simpa [ByteArray.size] using hs, cellsW_of h h2⟩

theorem KeyT.struct {P : Program} {kt : TypeId} {fs : Array Field} {ks : List CK} {n : Nat} (K : KeyLaw P kt) (hu : P.underlying kt = some (.struct fs)) (hkt : P.keyType kt = true) (hk0 : keyT P kt = some (true, ks)) (hl : kl P n kt = some ks) (hn : Nat.ble n (P.types.size + 1) = true)
    (hc : P.cellsOf kt = ks.length) : KeyT P kt := by
  refine ⟨.of_law K, fun ag ks' hk E v x ok hr => ?_⟩
  rw [hk0] at hk; cases hk
  obtain ⟨h1, h2, h3⟩ := ok
  cases v <;> simp [isAgg] at h1
  rename_i cs
  simp only [V.cellsL] at h3
  simp only [R] at hr
  obtain ⟨xs, rfl, hr, _⟩ := hr
  have hw := cellsW_of h3 hr
  obtain ⟨ls, hls⟩ := keyLits_some n kt ks hl (P.types.size + 1) (Nat.le_of_ble_eq_true hn) xs hw
  have hlen := hw.length
  refine ⟨.string (keyBytes ls), ?_⟩
  unfold keyOf
  simp only [hu]
  rw [if_pos (by simp [hkt, Value.formed, hu, hc, hlen])]
  simp [Value.cells, hls]

/-! MAPS AS ASSOCIATION LISTS -/

def aget {α β : Type} [DecidableEq α] : List (α × β) → α → Option β
  | [], _ => none
  | (a, b) :: m, k => if a = k then some b else aget m k

def aput {α β : Type} [DecidableEq α] : List (α × β) → α → β → List (α × β)
  | [], k, v => [(k, v)]
  | (a, b) :: m, k, v => if a = k then (k, v) :: m else (a, b) :: aput m k v

def adel {α β : Type} [DecidableEq α] : List (α × β) → α → List (α × β)
  | [], _ => []
  | (a, b) :: m, k => if a = k then m else (a, b) :: adel m k

theorem aget_aput {α β : Type} [DecidableEq α] (m : List (α × β)) (k k' : α) (v : β) : aget (aput m k v) k' = if k = k' then some v else aget m k' := by
  induction m with
  | nil => simp [aput, aget]
  | cons e m ih =>
    obtain ⟨a, b⟩ := e
    simp only [aput]
    split
    · rename_i h; subst h
      simp only [aget]
      split <;> rfl
    · rename_i h
      simp only [aget, ih]
      split
      · rename_i h'; subst h'
        rw [if_neg (fun q => h q.symm)]
      · rfl

theorem mem_aput {α β : Type} [DecidableEq α] {m : List (α × β)} {k : α} {v : β} {e : α × β} (h : e ∈ aput m k v) : e ∈ m ∨ e = (k, v) := by
  induction m with
  | nil => simp [aput] at h; exact .inr h
  | cons x m ih =>
    obtain ⟨a, b⟩ := x
    simp only [aput] at h
    split at h
    · simp only [List.mem_cons] at h ⊢
      rcases h with h | h
      · exact .inr h
      · exact .inl (.inr h)
    · simp only [List.mem_cons] at h ⊢
      rcases h with h | h
      · exact .inl (.inl h)
      · rcases ih h with h | h
        · exact .inl (.inr h)
        · exact .inr h

def encM {α β : Type} (ek : α → V) (ev : β → V) (m : List (α × β)) : List V := m.map fun e => .tup [ek e.1, ev e.2]

section
variable {α β : Type} [DecidableEq α] {ek : α → V} {ev : β → V}

theorem mapGet_enc (hk : ∀ a b, keyEq (ek a) (ek b) = decide (a = b)) (m : List (α × β)) (k : α) : mapGet (encM ek ev m) (ek k) = (aget m k).map ev := by
  induction m with
  | nil => rfl
  | cons e m ih =>
    obtain ⟨a, b⟩ := e
    show (if keyEq (ek a) (ek k) then some (ev b) else mapGet (encM ek ev m) (ek k)) = _
    rw [hk, ih]
    simp only [aget, decide_eq_true_eq]
    split <;> rfl

theorem mapPut_enc (hk : ∀ a b, keyEq (ek a) (ek b) = decide (a = b)) (m : List (α × β)) (k : α) (v : β) : mapPut (encM ek ev m) (ek k) (ev v) = encM ek ev (aput m k v) := by
  induction m with
  | nil => rfl
  | cons e m ih =>
    obtain ⟨a, b⟩ := e
    show (if keyEq (ek a) (ek k) then .tup [ek k, ev v] :: encM ek ev m else .tup [ek a, ev b] :: mapPut (encM ek ev m) (ek k) (ev v)) = _
    rw [hk, ih]
    simp only [aput, decide_eq_true_eq]
    split <;> rfl

theorem mapDel_enc (hk : ∀ a b, keyEq (ek a) (ek b) = decide (a = b)) (m : List (α × β)) (k : α) : mapDel (encM ek ev m) (ek k) = encM ek ev (adel m k) := by
  induction m with
  | nil => rfl
  | cons e m ih =>
    obtain ⟨a, b⟩ := e
    show (if keyEq (ek a) (ek k) then encM ek ev m else .tup [ek a, ev b] :: mapDel (encM ek ev m) (ek k)) = _
    rw [hk, ih]
    simp only [adel, decide_eq_true_eq]
    split <;> rfl

omit [DecidableEq α] in
theorem keysOK_enc {ag : Bool} {ks : List CK} (m : List (α × β)) (h : ∀ e ∈ m, keyOK ag ks (ek e.1)) : keysOK ag ks (encM ek ev m) := by
  induction m with
  | nil => trivial
  | cons e m ih =>
    exact ⟨⟨ek e.1, ev e.2, rfl, h e (by simp)⟩, ih fun e' he => h e' (by simp [he])⟩
end

def encP (k : Int × Int) : V := .agg [.int .i64 k.1, .int .i64 k.2]
theorem keyEq_encP (a b : Int × Int) : keyEq (encP a) (encP b) = decide (a = b) := by
  obtain ⟨x, y⟩ := a; obtain ⟨x', y'⟩ := b
  simp [keyEq, encP, V.cellsL, eqV, cellEq]
  rfl
theorem keyOK_encP {a b : Int} (h : InR .i64 a) (k : InR .i64 b) : keyOK true [.int .i64, .int .i64] (.agg [.int .i64 a, .int .i64 b]) :=
  ⟨rfl, rfl, ⟨⟨rfl, h⟩, ⟨rfl, k⟩, trivial⟩⟩

end Go.Eng
