import Derived.Test.YtecpknddocikaaaGreatDoorPSo
import Derived.Test.YtecpknddocikaaaGreatDoorX4T
set_option linter.unusedSimpArgs false
set_option linter.unusedVariables false
namespace Go.Proofs.YtecpknddocikaaaGreatDoor
open Go.X Go.Eng
theorem pow10_is (w : World) (pr : Nat → Nat → Prop) (h : HL w pr) : Go.Lib.TabIs Tryz.prog w "internal/strconv.uint64pow10" .u64 Go.Lib.pow10Tab := by
  obtain ⟨⟨ty, h1⟩, _⟩ := h.glob 1 G0 (if_pos rfl)
  unfold Go.Lib.TabIs World.var?
  have hg : Tryz.prog.globalNamed "internal/strconv.uint64pow10" = some 1 := by kernel_rfl
  rw [hg]
  simp only [Option.bind_some, h1]
  have : G0 = Go.Lib.pow10Tab.map fun z => Value.int .u64 z := by unfold G0; kernel_rfl
  rw [this]
noncomputable def strconv_Itoa : Int → Option (List UInt8) := itoaX
noncomputable def strconv_Itoa.spec : XSpec Tryz.prog := XSpec.t 35 [.d .i64] [.str] strconv_Itoa (by kernel_rfl) (itoa_fnT Tryz.itoaI pow10_is)
noncomputable def strings_Join : List (List UInt8) × List UInt8 → Option (List UInt8) := joinX
theorem join_extra : Go.Proofs.Builder.Extra Tryz.prog Tryz.joinI_ren where
  sizeBuilder := by kernel_rfl
  liesBuilder := by kernel_rfl
  t5 := Tryz.underlying5
  a5 := Tryz.isAgg5
  z5 := Tryz.sizeOf5
  v5 := Tryz.zeroValue5
  infoByte := by kernel_rfl
  cellsByte := by kernel_rfl
  sizeByte := by kernel_rfl
  neB5 := by decide
noncomputable def strings_Join.spec : XSpec Tryz.prog := XSpec.t 24 [.d .l_str, .d .str] [.str] strings_Join (by kernel_rfl) (join_fnT Tryz.joinI join_extra)
end Go.Proofs.YtecpknddocikaaaGreatDoor
