import Derived.Test.YtjcbpfhlgebgdaaDoorTk3
namespace Go.Proofs.YtjcbpfhlgebgdaaDoor
open Go Go.Run
set_option maxRecDepth 1000000 in
theorem Tk_run4 (ty0 : TypeId) : runF Tryd.prog Tryd.runF 1 (fun v _ => veq v (.bool true)) 21000 (Tk_c4 ty0) = true := by kernel_rfl
end Go.Proofs.YtjcbpfhlgebgdaaDoor
