import Derived.Test.YtgihkmmcddhajaaE13
import Derived.WideKeyPair
import Derived.DeepKeys4
import Derived.OpenShut
namespace Go.Eng
set_option linter.unusedSimpArgs false
set_option linter.unusedVariables false
open Go.RowKit Go.WideMaps

/-! KEY TYPES -/

theorem wf_of_wrap {k : IntKind} {n : Int} (h : k.wrap n = n) : (Lit.int k n).wf = true := by
  have := wf_wrap k n
  rwa [h] at this

theorem KeyT.int {P : Program} {kt : TypeId} {q : IntKind} (hu : P.underlying kt = some (.int q)) : KeyT P kt := by
  refine ⟨Maps.int_keyed hu, fun ag ks hk E v x ok hr => ?_⟩
  have e : keyT P kt = some (false, [.int q]) := by simp [keyT, aggT, layT, hu]
  rw [e] at hk; cases hk
  obtain ⟨h1, h2, h3⟩ := ok
  cases v <;> simp [isAgg] at h1 <;> simp [V.cellsL, keyCells] at h3
  obtain ⟨rfl, h3⟩ := h3
  simp only [R] at hr; subst hr
  exact ⟨_, Maps.keyOf_int_mk hu (wf_of_wrap h3)⟩

theorem KeyT.str {P : Program} {kt : TypeId} (hu : P.underlying kt = some .string) : KeyT P kt := by
  refine ⟨Maps.string_keyed hu, fun ag ks hk E v x ok hr => ?_⟩
  have e : keyT P kt = some (false, [.str]) := by simp [keyT, aggT, layT, hu]
  rw [e] at hk; cases hk
  obtain ⟨h1, h2, h3⟩ := ok
  cases v <;> simp [isAgg] at h1 <;> simp [V.cellsL, keyCells] at h3
  simp only [R] at hr
  obtain ⟨rfl, hr⟩ := hr
  exact ⟨_, keyOf_string_mk hu (by simpa [ByteArray.size] using hr)⟩

theorem KeyT.pair {P : Program} {kt e : TypeId} {q : IntKind} (A : ArrKey P kt e 2) (he : P.underlying e = some (.int q)) (hsz : ∃ m, P.types.size = m + 1) (K : KeyLaw P kt) (hk0 : keyT P kt = some (true, [.int q, .int q])) : KeyT P kt := by
  refine ⟨.of_law K, fun ag ks hk E v x ok hr => ?_⟩
  rw [hk0] at hk; cases hk
  obtain ⟨h1, h2, h3⟩ := ok
  cases v <;> simp [isAgg] at h1
  rename_i cs
  simp only [V.cellsL] at h3
  match cs, h3 with
  | [.int k0 a, .int k1 b], h3 =>
    simp only [keyCells, and_true] at h3
    obtain ⟨⟨rfl, ha⟩, rfl, hb⟩ := h3
    simp only [R, RL] at hr
    obtain ⟨xs, rfl, hr, _⟩ := hr
    obtain ⟨y, ys, rfl, rfl, y1, ys1, rfl, rfl, rfl⟩ := hr
    exact ⟨_, keyOf_pair A he hsz (wf_of_wrap ha) (wf_of_wrap hb)⟩

/-! MAPS AS ASSOCIATION LISTS -/

def aget {α β : Type} [DecidableEq α] : List (α × β) → α → Option β
  | [], _ => none
  | (a, b) :: m, k => if a = k then some b else aget m k

def aput {α β : Type} [DecidableEq α] : List (α × β) → α → β → List (α × β)
  | [], k, v => [(k, v)]
  | (a, b) :: m, k, v => if a = k then (k, v) :: m else (a, b) :: aput m k v

theorem aget_aput {α β : Type} [DecidableEq α] (m : List (α × β)) (k k' : α) (v : β) : aget (aput m k v) k' = if k = k' then some v else aget m k' := by
  induction m with
  | nil => simp [aput, aget]
  | cons e m ih =>
    obtain ⟨a, b⟩ := e
    simp only [aput]
    split
    · rename_i h; subst h
      simp only [aget]
      split <;> rfl
    · rename_i h
      simp only [aget, ih]
      split
      · rename_i h'; subst h'
        rw [if_neg (fun q => h q.symm)]
      · rfl

theorem mem_aput {α β : Type} [DecidableEq α] {m : List (α × β)} {k : α} {v : β} {e : α × β} (h : e ∈ aput m k v) : e ∈ m ∨ e = (k, v) := by
  induction m with
  | nil => simp [aput] at h; exact .inr h
  | cons x m ih =>
    obtain ⟨a, b⟩ := x
    simp only [aput] at h
    split at h
    · simp only [List.mem_cons] at h ⊢
      rcases h with h | h
      · exact .inr h
      · exact .inl (.inr h)
    · simp only [List.mem_cons] at h ⊢
      rcases h with h | h
      · exact .inl (.inl h)
      · rcases ih h with h | h
        · exact .inl (.inr h)
        · exact .inr h

def encM {α β : Type} (ek : α → V) (ev : β → V) (m : List (α × β)) : List V := m.map fun e => .tup [ek e.1, ev e.2]

section
variable {α β : Type} [DecidableEq α] {ek : α → V} {ev : β → V}

theorem mapGet_enc (hk : ∀ a b, keyEq (ek a) (ek b) = decide (a = b)) (m : List (α × β)) (k : α) : mapGet (encM ek ev m) (ek k) = (aget m k).map ev := by
  induction m with
  | nil => rfl
  | cons e m ih =>
    obtain ⟨a, b⟩ := e
    show (if keyEq (ek a) (ek k) then some (ev b) else mapGet (encM ek ev m) (ek k)) = _
    rw [hk, ih]
    simp only [aget, decide_eq_true_eq]
    split <;> rfl

theorem mapPut_enc (hk : ∀ a b, keyEq (ek a) (ek b) = decide (a = b)) (m : List (α × β)) (k : α) (v : β) : mapPut (encM ek ev m) (ek k) (ev v) = encM ek ev (aput m k v) := by
  induction m with
  | nil => rfl
  | cons e m ih =>
    obtain ⟨a, b⟩ := e
    show (if keyEq (ek a) (ek k) then .tup [ek k, ev v] :: encM ek ev m else .tup [ek a, ev b] :: mapPut (encM ek ev m) (ek k) (ev v)) = _
    rw [hk, ih]
    simp only [aput, decide_eq_true_eq]
    split <;> rfl

omit [DecidableEq α] in
theorem keysOK_enc {ag : Bool} {ks : List CK} (m : List (α × β)) (h : ∀ e ∈ m, keyOK ag ks (ek e.1)) : keysOK ag ks (encM ek ev m) := by
  induction m with
  | nil => trivial
  | cons e m ih =>
    exact ⟨⟨ek e.1, ev e.2, rfl, h e (by simp)⟩, ih fun e' he => h e' (by simp [he])⟩
end

def encP (k : Int × Int) : V := .agg [.int .i64 k.1, .int .i64 k.2]
theorem keyEq_encP (a b : Int × Int) : keyEq (encP a) (encP b) = decide (a = b) := by
  obtain ⟨x, y⟩ := a; obtain ⟨x', y'⟩ := b
  simp [keyEq, encP, V.cellsL, eqV, cellEq]
  rfl
theorem keyOK_encP {a b : Int} (h : InR .i64 a) (k : InR .i64 b) : keyOK true [.int .i64, .int .i64] (.agg [.int .i64 a, .int .i64 b]) :=
  ⟨rfl, rfl, ⟨⟨rfl, h⟩, ⟨rfl, k⟩, trivial⟩⟩

end Go.Eng
