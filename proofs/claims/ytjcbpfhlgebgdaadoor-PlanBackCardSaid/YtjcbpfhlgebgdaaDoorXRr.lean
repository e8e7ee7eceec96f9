import Derived.Test.YtjcbpfhlgebgdaaDoorXRw
import Derived.Test.YtjcbpfhlgebgdaaDoorXGRf
import Derived.Test.YtjcbpfhlgebgdaaDoorRoT
set_option linter.unusedSimpArgs false
set_option linter.unusedVariables false
namespace Go.Proofs.YtjcbpfhlgebgdaaDoor
open Go Go.Eng Go.RowKit Go.X Go.Seq
end Go.Proofs.YtjcbpfhlgebgdaaDoor
