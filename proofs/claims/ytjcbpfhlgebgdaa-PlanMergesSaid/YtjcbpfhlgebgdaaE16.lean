import Derived.Test.YtjcbpfhlgebgdaaE13
import Derived.WideKeyPair
import Derived.DeepKeys4
import Derived.OpenShut
set_option linter.unusedSimpArgs false
set_option linter.unusedVariables false
namespace Go.Eng
open Go.RowKit Go.WideMaps
theorem wf_of_wrap {k : IntKind} {n : Int} (h : k.wrap n = n) : (Lit.int k n).wf = true := by
  have := wf_wrap k n
  rwa [h] at this
theorem KeyT.pair {P : Program} {kt e : TypeId} {q : IntKind} (A : ArrKey P kt e 2) (he : P.underlying e = some (.int q)) (hsz : ∃ m, P.types.size = m + 1) (K : KeyLaw P kt) (hk0 : keyT P kt = some (true, [.int q, .int q])) : KeyT P kt := by
  refine ⟨.of_law K, fun ag ks hk E v x ok hr => ?_⟩
  rw [hk0] at hk; cases hk
  obtain ⟨h1, h2, h3⟩ := ok
  cases v <;> simp [isAgg] at h1
  rename_i cs
  simp only [V.cellsL] at h3
  match cs, h3 with
  | [.int k0 a, .int k1 b], h3 =>
    simp only [keyCells, and_true] at h3
    obtain ⟨⟨rfl, ha⟩, rfl, hb⟩ := h3
    simp only [R, RL] at hr
    obtain ⟨xs, rfl, hr, _⟩ := hr
    obtain ⟨y, ys, rfl, rfl, y1, ys1, rfl, rfl, rfl⟩ := hr
    exact ⟨_, keyOf_pair A he hsz (wf_of_wrap ha) (wf_of_wrap hb)⟩
def aget {α β : Type} [DecidableEq α] : List (α × β) → α → Option β
  | [], _ => none
  | (a, b) :: m, k => if a = k then some b else aget m k
def aput {α β : Type} [DecidableEq α] : List (α × β) → α → β → List (α × β)
  | [], k, v => [(k, v)]
  | (a, b) :: m, k, v => if a = k then (k, v) :: m else (a, b) :: aput m k v
def adel {α β : Type} [DecidableEq α] : List (α × β) → α → List (α × β)
  | [], _ => []
  | (a, b) :: m, k => if a = k then m else (a, b) :: adel m k
theorem aget_aput {α β : Type} [DecidableEq α] (m : List (α × β)) (k k' : α) (v : β) : aget (aput m k v) k' = if k = k' then some v else aget m k' := by
  induction m with
  | nil => simp [aput, aget]
  | cons e m ih =>
    obtain ⟨a, b⟩ := e
    simp only [aput]
    split
    · rename_i h; subst h
      simp only [aget]
      split <;> rfl
    · rename_i h
      simp only [aget, ih]
      split
      · rename_i h'; subst h'
        rw [if_neg (fun q => h q.symm)]
      · rfl
theorem mem_aput {α β : Type} [DecidableEq α] {m : List (α × β)} {k : α} {v : β} {e : α × β} (h : e ∈ aput m k v) : e ∈ m ∨ e = (k, v) := by
  induction m with
  | nil => simp [aput] at h; exact .inr h
  | cons x m ih =>
    obtain ⟨a, b⟩ := x
    simp only [aput] at h
    split at h
    · simp only [List.mem_cons] at h ⊢
      rcases h with h | h
      · exact .inr h
      · exact .inl (.inr h)
    · simp only [List.mem_cons] at h ⊢
      rcases h with h | h
      · exact .inl (.inl h)
      · rcases ih h with h | h
        · exact .inl (.inr h)
        · exact .inr h
def encM {α β : Type} (ek : α → V) (ev : β → V) (m : List (α × β)) : List V := m.map fun e => .tup [ek e.1, ev e.2]
section
variable {α β : Type} [DecidableEq α] {ek : α → V} {ev : β → V}
theorem mapGet_enc (hk : ∀ a b, keyEq (ek a) (ek b) = decide (a = b)) (m : List (α × β)) (k : α) : mapGet (encM ek ev m) (ek k) = (aget m k).map ev := by
  induction m with
  | nil => rfl
  | cons e m ih =>
    obtain ⟨a, b⟩ := e
    show (if keyEq (ek a) (ek k) then some (ev b) else mapGet (encM ek ev m) (ek k)) = _
    rw [hk, ih]
    simp only [aget, decide_eq_true_eq]
    split <;> rfl
theorem mapPut_enc (hk : ∀ a b, keyEq (ek a) (ek b) = decide (a = b)) (m : List (α × β)) (k : α) (v : β) : mapPut (encM ek ev m) (ek k) (ev v) = encM ek ev (aput m k v) := by
  induction m with
  | nil => rfl
  | cons e m ih =>
    obtain ⟨a, b⟩ := e
    show (if keyEq (ek a) (ek k) then .tup [ek k, ev v] :: encM ek ev m else .tup [ek a, ev b] :: mapPut (encM ek ev m) (ek k) (ev v)) = _
    rw [hk, ih]
    simp only [aput, decide_eq_true_eq]
    split <;> rfl
theorem mapDel_enc (hk : ∀ a b, keyEq (ek a) (ek b) = decide (a = b)) (m : List (α × β)) (k : α) : mapDel (encM ek ev m) (ek k) = encM ek ev (adel m k) := by
  induction m with
  | nil => rfl
  | cons e m ih =>
    obtain ⟨a, b⟩ := e
    show (if keyEq (ek a) (ek k) then encM ek ev m else .tup [ek a, ev b] :: mapDel (encM ek ev m) (ek k)) = _
    rw [hk, ih]
    simp only [adel, decide_eq_true_eq]
    split <;> rfl
omit [DecidableEq α] in
theorem keysOK_enc {ag : Bool} {ks : List CK} (m : List (α × β)) (h : ∀ e ∈ m, keyOK ag ks (ek e.1)) : keysOK ag ks (encM ek ev m) := by
  induction m with
  | nil => trivial
  | cons e m ih =>
    exact ⟨⟨ek e.1, ev e.2, rfl, h e (by simp)⟩, ih fun e' he => h e' (by simp [he])⟩
end
end Go.Eng
