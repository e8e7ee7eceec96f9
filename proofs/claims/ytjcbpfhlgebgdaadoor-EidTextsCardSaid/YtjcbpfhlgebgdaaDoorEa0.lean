import Derived.Test.YtjcbpfhlgebgdaaDoorRunF
import Derived.Test.YtjcbpfhlgebgdaaDoorR26
namespace Go.Proofs.YtjcbpfhlgebgdaaDoor
open Go Go.Run
noncomputable def Ea_c0:Cfg:=Go.Run.start Tryd.f40 40 0 [] .nil
set_option maxRecDepth 1000000 in
theorem Ea_run0:runF Tryd.prog Tryd.runF 0 (fun v _=>veq v (.bool true)) 21000 (Ea_c0) = true:=by kernel_rfl
end Go.Proofs.YtjcbpfhlgebgdaaDoor
