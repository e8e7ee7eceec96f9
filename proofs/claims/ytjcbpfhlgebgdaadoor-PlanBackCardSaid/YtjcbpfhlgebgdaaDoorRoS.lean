import Derived.Test.YtjcbpfhlgebgdaaDoorRoR
set_option linter.unusedSimpArgs false
set_option linter.unusedVariables false
namespace Go.Seq
open Go.RowKit Go.Shelf Go.Proofs
end Go.Seq
