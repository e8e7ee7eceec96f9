import Derived.Test.YtjcbpfhlgebgdaaDoorXGWo
import Derived.Test.YtjcbpfhlgebgdaaDoorX9
import Derived.Test.YtjcbpfhlgebgdaaDoorChecked
import Derived.KernelRfl
set_option linter.unusedSimpArgs false
set_option linter.unusedVariables false
namespace Go.Proofs.YtjcbpfhlgebgdaaDoor
open Go.X Go.Eng
end Go.Proofs.YtjcbpfhlgebgdaaDoor
