/- A run of the function packhorse/packhorselaw32.awake in pieces, printed by a program of the prover's: pieces 2 to 2. -/
import Derived.Test.YtjcbpfhlgebgdaaGreatRa1
namespace Go.Proofs.YtjcbpfhlgebgdaaGreat
open Go Go.Run

set_option maxRecDepth 1000000 in
theorem Ra_run2 : runF Tryz.prog Tryz.runF 0 (fun v _ => veq v (.bool true)) 21000 (Ra_c2) = true := by kernel_rfl
end Go.Proofs.YtjcbpfhlgebgdaaGreat
