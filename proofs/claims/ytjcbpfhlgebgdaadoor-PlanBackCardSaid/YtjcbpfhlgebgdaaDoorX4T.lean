import Derived.Test.YtjcbpfhlgebgdaaDoorX9
import Derived.Shelf.Strconv.Itoa3
import Derived.Lib.ItoaLen
import Derived.Shelf.Strings.OnBuilder
set_option linter.unusedSimpArgs false
set_option linter.unusedVariables false
namespace Go.X
open Go.Eng
open Go.RowKit Go.Proofs Go.Shelf Go.Lib Go.Sort
variable {P : Program} {ρ : Ren}
theorem fn_below {f : FuncId} {args : List V} {res : V}
    (h : ∀ (w : World) (pr : Nat → Nat → Prop) (lam : Nat → Option Nat) (cargs : Array Value), HL w pr → RL ⟨w, pr, lam⟩ args cargs.toList →
      Calls P f cargs w fun en w' => ∃ v, en = .returned v ∧ (∀ E, R E res v) ∧ Below w.heap.size w w') : Go.Eng.Fn P f args [] res [] := by
  intro w pr lam cargs hl hargs _ _ _
  refine (h w pr lam cargs hl hargs).mono ?_
  rintro en w' ⟨v, rfl, hr, hb⟩
  exact ⟨v, pr, rfl, hr _, fun i B hB => by simp at hB, ⟨hb.os, hb.tape, hb.output, DLE.any _ _, hb.size, fun k hk _ => hb.block k hk, fun _ _ h => h, fun _ _ h => .inl h⟩⟩
theorem below_grow (w : World) (q : Nat) (os : Array Obj) : Below w.heap.size w (grow (w.drewN q) os) := by
  refine ⟨rfl, rfl, rfl, ?_, fun k hk => ?_⟩
  · rw [size_grow]; exact Nat.le_add_right _ _
  · exact heap_grow_old _ _ hk
end Go.X
