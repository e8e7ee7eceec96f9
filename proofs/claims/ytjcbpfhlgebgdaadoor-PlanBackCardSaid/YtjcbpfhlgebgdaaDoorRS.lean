import Derived.RangeFuncRecord
import Derived.RangeFuncNested
set_option linter.unusedSimpArgs false
set_option linter.unusedVariables false
namespace Go.Seq
open Go.RowKit
structure Moves (Z : Nat → Prop) (A B : World) : Prop where
  os : B.os = A.os
  tape : B.tape = A.tape
  output : B.output = A.output
  size : A.heap.size ≤ B.heap.size
  block : ∀ k, k < A.heap.size → ¬ Z k → B.heap[k]? = A.heap[k]?
theorem Moves.refl (Z : Nat → Prop) (A : World) : Moves Z A A := ⟨rfl, rfl, rfl, Nat.le_refl _, fun _ _ _ => rfl⟩
def SeqZ {α : Type} (F : Fence) (n : Nat) (P : Program) (g : Nat) (lb : Array Value) (encs : α → Array Value) (Z : Nat → Prop) (xs : List α) (w : World) : Prop :=
  ∀ (l : Nat) (J Jx : List α → World → Prop), (∀ s A B, J s A → Moves Z A B → J s B) → (∀ s A B, Jx s A → Moves Z A B → Jx s B) →
    ∀ W, Moves (fun _ => False) w W →
    (∀ pre x W1, J pre W1 → pre ++ [x] <+: xs → YieldAt F (n - 1) P l (encs x) W1 fun e W' =>
      (e = .returned (.bool true) ∧ J (pre ++ [x]) W' ∧ ∀ k, Z k → W'.heap[k]? = W1.heap[k]?) ∨ (e = .returned (.bool false) ∧ Jx (pre ++ [x]) W')) →
    J [] W →
    CallsIn F n P g (#[.func (.yield l) #[] #[]] ++ lb) W fun e W' => (∃ v, e = .returned v) ∧ (J xs W' ∨ ∃ pre, Jx pre W')
structure Turns (Z : Nat → Prop) (N : Nat) (A B : World) : Prop where
  os : B.os = A.os
  tape : B.tape = A.tape
  output : B.output = A.output
  size : A.heap.size ≤ B.heap.size
  block : ∀ k o, A.heap[k]? = some o → ¬ Z k → (k < N ∨ o.isCells = true) → B.heap[k]? = some o
theorem Moves.turns {Z : Nat → Prop} {N : Nat} {A B : World} (h : Moves Z A B) : Turns Z N A B :=
  ⟨h.os, h.tape, h.output, h.size, fun k o ho hz _ => (h.block k (Array.getElem?_eq_some_iff.1 ho).1 hz).trans ho⟩
theorem Turns.putObj {Z : Nat → Prop} {N l : Nat} {A : World} {o : Obj} (o' : Obj) (hl : A.heap[l]? = some o) (hN : N ≤ l) (ho : o.isCells = false) : Turns Z N A (A.putObj l o') :=
  ⟨rfl, rfl, rfl, by simp, fun k o2 h2 _ hc => by
    by_cases e : k = l
    · subst e
      rw [hl] at h2; cases h2
      rcases hc with hc | hc
      · omega
      · rw [ho] at hc; cases hc
    · exact (World.putObj_heap_other e).trans h2⟩
theorem Turns.alloc {Z : Nat → Prop} {N : Nat} {A : World} (o : Obj) : Turns Z N A (A.alloc o) :=
  ⟨rfl, rfl, rfl, by simp, fun k o2 h2 _ _ => by
    have := (Array.getElem?_eq_some_iff.1 h2).1
    show (A.heap.push o)[k]? = _
    rw [Array.getElem?_push_lt this, ← h2, Array.getElem?_eq_getElem this]⟩
def Keeps (Z : Nat → Prop) (N : Nat) (A B : World) : Prop := ∀ k o, A.heap[k]? = some o → (Z k ∨ (N ≤ k ∧ o.isCells = false)) → B.heap[k]? = some o
theorem Keeps.refl (Z : Nat → Prop) (N : Nat) (A : World) : Keeps Z N A A := fun _ _ h _ => h
theorem Keeps.trans {Z : Nat → Prop} {N : Nat} {A B C : World} (h : Keeps Z N A B) (k : Keeps Z N B C) : Keeps Z N A C := fun i o ho hc => k i o (h i o ho hc) hc
def postZ {α : Type} (Z : Nat → Prop) (N : Nat) (I : List α → World → Prop) (Ix : Code → List α → World → Prop) (xs : List α) (W : World) : Exit → Act → World → Prop
  | .normal, _, W' => Keeps Z N W W' ∧ I xs W'
  | .ret, _, W' => Keeps Z N W W' ∧ Ix .ret xs W'
  | .exit id, _, W' => Keeps Z N W W' ∧ Ix (.exit id) xs W'
  | _, _, _ => False
variable {F : Fence} {n : Nat} {P : Program}
end Go.Seq
