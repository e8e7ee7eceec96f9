import Derived.Test.YtjcbpfhlgebgdaaGreatDoorP3p
set_option linter.unusedSimpArgs false
set_option linter.unusedVariables false
namespace Go.Proofs.YtjcbpfhlgebgdaaGreatDoor
open Go Go.Eng Go.RowKit Go.X Go.Seq
end Go.Proofs.YtjcbpfhlgebgdaaGreatDoor
