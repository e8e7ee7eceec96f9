import Derived.Test.YtjcbpfhlgebgdaaDoorX4T
import Derived.Test.YtjcbpfhlgebgdaaDoorPLayW
set_option linter.unusedSimpArgs false
set_option linter.unusedVariables false
namespace Go.Proofs.YtjcbpfhlgebgdaaDoor
open Go Go.X Go.Eng Go.RowKit Go.Proofs Go.Shelf
theorem _root_.Go.Proofs.Tryd.mixed : Tryd.prog.follows .mixedOrders = true := by kernel_rfl
def strings_IndexByte (a : List UInt8 × Int) : Option Int := some (Lib.indexByte a.1 a.2.toNat.toUInt8)
theorem strings_IndexByte.fn : FnT Tryd.prog 188 [.d .str, .d .u8] [.i64] strings_IndexByte := by
  intro x r h
  cases h
  obtain ⟨s, c⟩ := x
  refine fn_below fun w pr lam cargs hl hargs => ?_
  simp only [buildA, reflC, dataOf, refl, refl_str, refl_u8, toVL, toV, RL, R] at hargs
  obtain ⟨y, ys, e, ⟨rfl, hs⟩, y2, ys2, rfl, rfl, rfl⟩ := hargs
  have hc' : cargs = #[.string ⟨s.toArray⟩, .int .u8 c] := by rw [← Array.toList_inj]; simpa using e
  subst hc'
  refine (Any.strings_IndexByte Tryd.ibI ⟨s.toArray⟩ c w).mono ?_
  rintro en w' ⟨rfl, rfl⟩
  refine ⟨_, rfl, fun E => ?_, Below.refl _ _⟩
  show R E (.int .i64 (Lib.indexByte s c.toNat.toUInt8)) _
  simp only [R]
noncomputable def strings_IndexByte.spec : XSpec Tryd.prog := XSpec.t 188 [.d .str, .d .u8] [.i64] strings_IndexByte (by kernel_rfl) strings_IndexByte.fn
end Go.Proofs.YtjcbpfhlgebgdaaDoor
