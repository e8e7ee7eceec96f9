import Derived.Test.YtjcbpfhlgebgdaaE0
set_option linter.unusedSimpArgs false
set_option linter.unusedVariables false
namespace Go.Eng
open Go.RowKit
def GL : Nat → Option (List Value) := fun _ => none
theorem GL_one (g : Nat) (vs : List Value) (h : GL g = some vs) : ∀ v ∈ vs, v.oneCell' = true := by cases h
theorem GL_pos (g : Nat) (vs : List Value) (h : GL g = some vs) : 0 < vs.length := by cases h
def DLE (_ _ : World) : Prop := True
theorem DLE.any (w w' : World) : DLE w w' := trivial
theorem DLE.refl (w : World) : DLE w w := trivial
theorem DLE.trans {w w1 w2 : World} (h : DLE w w1) (k : DLE w1 w2) : DLE w w2 := trivial
theorem DLE.of_le {w w' : World} (h : w.drawn ≤ w'.drawn) : DLE w w' := trivial
theorem DLE.of_eq {w w' : World} (h : w'.drawn = w.drawn) : DLE w w' := trivial
theorem DLE.drewN (w : World) (n : Nat) : DLE w (w.drewN n) := trivial
end Go.Eng
