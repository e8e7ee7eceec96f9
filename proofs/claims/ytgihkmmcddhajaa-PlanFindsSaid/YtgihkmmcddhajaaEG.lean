import Derived.Test.YtgihkmmcddhajaaE0
namespace Go.Eng
set_option linter.unusedSimpArgs false
set_option linter.unusedVariables false
open Go.RowKit
/-- The package-level variables of plain data that the statement lists, by number, with their cells. -/
def GL : Nat → Option (List Value) := fun _ => none
theorem GL_one (g : Nat) (vs : List Value) (h : GL g = some vs) : ∀ v ∈ vs, v.oneCell' = true := by cases h
theorem GL_pos (g : Nat) (vs : List Value) (h : GL g = some vs) : 0 < vs.length := by cases h
/-- What is known of the draws: where sorts are called (kit's contracts ask for it), that they do not become fewer. -/
def DLE (w w' : World) : Prop := w.drawn ≤ w'.drawn
theorem DLE.refl (w : World) : DLE w w := Nat.le_refl _
theorem DLE.trans {w w1 w2 : World} (h : DLE w w1) (k : DLE w1 w2) : DLE w w2 := Nat.le_trans h k
theorem DLE.of_eq {w w' : World} (h : w'.drawn = w.drawn) : DLE w w' := Nat.le_of_eq h.symm
theorem DLE.drewN (w : World) (n : Nat) : DLE w (w.drewN n) := Nat.le_add_right _ _
end Go.Eng
