import Derived.Test.YtjcbpfhlgebgdaaDoorCN3
set_option linter.unusedSimpArgs false
set_option linter.unusedVariables false
namespace Go.Proofs.YtjcbpfhlgebgdaaDoor
open Go Go.Eng Go.RowKit Go.X Go.Seq Go.Shelf
theorem ix0 (M : Nat) (W : World) : Sem.run Tryd.prog (Instr.index 171 (.agg #[.pointer (some ⟨M, 0, none⟩), .pointer (some ⟨M, 1, none⟩), .pointer (some ⟨M, 2, none⟩), .pointer (some ⟨M, 3, none⟩), .pointer (some ⟨M, 4, none⟩), .pointer (some ⟨M, 5, none⟩)]) (.int .i64 0)) W = .ok (.pointer (some ⟨M, 0, none⟩)) W := by kernel_rfl
theorem ix1 (M : Nat) (W : World) : Sem.run Tryd.prog (Instr.index 171 (.agg #[.pointer (some ⟨M, 0, none⟩), .pointer (some ⟨M, 1, none⟩), .pointer (some ⟨M, 2, none⟩), .pointer (some ⟨M, 3, none⟩), .pointer (some ⟨M, 4, none⟩), .pointer (some ⟨M, 5, none⟩)]) (.int .i64 1)) W = .ok (.pointer (some ⟨M, 1, none⟩)) W := by kernel_rfl
theorem ix2 (M : Nat) (W : World) : Sem.run Tryd.prog (Instr.index 171 (.agg #[.pointer (some ⟨M, 0, none⟩), .pointer (some ⟨M, 1, none⟩), .pointer (some ⟨M, 2, none⟩), .pointer (some ⟨M, 3, none⟩), .pointer (some ⟨M, 4, none⟩), .pointer (some ⟨M, 5, none⟩)]) (.int .i64 2)) W = .ok (.pointer (some ⟨M, 2, none⟩)) W := by kernel_rfl
theorem ix3 (M : Nat) (W : World) : Sem.run Tryd.prog (Instr.index 171 (.agg #[.pointer (some ⟨M, 0, none⟩), .pointer (some ⟨M, 1, none⟩), .pointer (some ⟨M, 2, none⟩), .pointer (some ⟨M, 3, none⟩), .pointer (some ⟨M, 4, none⟩), .pointer (some ⟨M, 5, none⟩)]) (.int .i64 3)) W = .ok (.pointer (some ⟨M, 3, none⟩)) W := by kernel_rfl
theorem ix4 (M : Nat) (W : World) : Sem.run Tryd.prog (Instr.index 171 (.agg #[.pointer (some ⟨M, 0, none⟩), .pointer (some ⟨M, 1, none⟩), .pointer (some ⟨M, 2, none⟩), .pointer (some ⟨M, 3, none⟩), .pointer (some ⟨M, 4, none⟩), .pointer (some ⟨M, 5, none⟩)]) (.int .i64 4)) W = .ok (.pointer (some ⟨M, 4, none⟩)) W := by kernel_rfl
theorem ix5 (M : Nat) (W : World) : Sem.run Tryd.prog (Instr.index 171 (.agg #[.pointer (some ⟨M, 0, none⟩), .pointer (some ⟨M, 1, none⟩), .pointer (some ⟨M, 2, none⟩), .pointer (some ⟨M, 3, none⟩), .pointer (some ⟨M, 4, none⟩), .pointer (some ⟨M, 5, none⟩)]) (.int .i64 5)) W = .ok (.pointer (some ⟨M, 5, none⟩)) W := by kernel_rfl
end Go.Proofs.YtjcbpfhlgebgdaaDoor
