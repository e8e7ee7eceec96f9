import Derived.Test.YtjcbpfhlgebgdaaDoorPApm
import Derived.Test.YtjcbpfhlgebgdaaDoorPLayA
import Derived.Test.YtjcbpfhlgebgdaaDoorChecked
import Derived.KernelRfl
/- strconv.AppendInt of this program, as X uses it. -/
namespace Go.Proofs.YtjcbpfhlgebgdaaDoor
open Go.X Go.Eng
set_option linter.unusedSimpArgs false
set_option linter.unusedVariables false
/-- The table of powers of ten is as the row says. -/
theorem pow10_is (w : World) (pr : Nat → Nat → Prop) (h : HL w pr) : Go.Lib.TabIs Tryd.prog w "internal/strconv.uint64pow10" .u64 Go.Lib.pow10Tab := by
  obtain ⟨⟨ty, h1⟩, _⟩ := h.glob 1 G0 (if_pos rfl)
  unfold Go.Lib.TabIs World.var?
  have hg : Tryd.prog.globalNamed "internal/strconv.uint64pow10" = some 1 := by kernel_rfl
  rw [hg]
  simp only [Option.bind_some, h1]
  have : G0 = Go.Lib.pow10Tab.map fun z => Value.int .u64 z := by unfold G0; kernel_rfl
  rw [this]
noncomputable def appendI.mu : XMut Tryd.prog := appI_mu (P := Tryd.prog) (ρ := Tryd.appI_ren) Tryd.appI (by kernel_rfl) (by kernel_rfl) pow10_is (fun _ _ => trivial)
end Go.Proofs.YtjcbpfhlgebgdaaDoor
