/- A run of the function packhorse/packhorselaw39.awake in pieces, printed by a program of the prover's: pieces 6 to 6. -/
import Derived.Test.YtjcpgiicdppkcaaDoorTa1
namespace Go.Proofs.YtjcpgiicdppkcaaDoor
open Go Go.Run

set_option maxRecDepth 1000000 in
theorem Ta_run6 (ty0 : TypeId) : runF Tryd.prog Tryd.runF 1 (fun v _ => veq v (.bool true)) 9000 (Ta_c6 ty0) = true := by kernel_rfl
end Go.Proofs.YtjcpgiicdppkcaaDoor
