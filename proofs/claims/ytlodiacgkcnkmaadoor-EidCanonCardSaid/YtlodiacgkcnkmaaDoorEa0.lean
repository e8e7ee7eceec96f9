/- A run of the function packhorse/packhorselaw05.awake in pieces, printed by a program of the prover's: pieces 0 to 0. -/
import Derived.Test.YtlodiacgkcnkmaaDoorRunF
import Derived.Test.YtlodiacgkcnkmaaDoorR26
namespace Go.Proofs.YtlodiacgkcnkmaaDoor
open Go Go.Run
noncomputable def Ea_c0 : Cfg := Go.Run.start Tryd.f7 7 0 [] .nil

set_option maxRecDepth 1000000 in
theorem Ea_run0 : runF Tryd.prog Tryd.runF 0 (fun v _ => veq v (.bool true)) 21000 (Ea_c0) = true := by kernel_rfl
end Go.Proofs.YtlodiacgkcnkmaaDoor
