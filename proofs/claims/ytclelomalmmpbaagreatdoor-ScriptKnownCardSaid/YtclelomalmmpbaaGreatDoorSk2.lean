import Derived.Test.YtclelomalmmpbaaGreatDoorSkD
set_option linter.unusedSimpArgs false
set_option linter.unusedVariables false
namespace Go.Proofs.YtclelomalmmpbaaGreatDoor
open Go Go.Run Go.Run.Sh
set_option maxRecDepth 1000000 in
theorem Sk_run2a (ty0:TypeId) (ty1:TypeId) (ty2:TypeId) (n1 n2 k:Nat):cutF Tryz.prog Tryz.runF 5 20000 [0,1,3,4,5,6,131,249,304,382,384,389,390,391,392,393,409,411,418,420,425,426] (Sk_c2 ty0 ty1 ty2 (Sk_om true n1 n2 k)) = some (Sk_c3 ty0 ty1 ty2 (Sk_om true n1 n2 k)):=by kernel_rfl
set_option maxRecDepth 1000000 in
theorem Sk_run2b (ty0:TypeId) (ty1:TypeId) (ty2:TypeId) (n1 n2 k:Nat):cutF Tryz.prog Tryz.runF 5 20000 [0,1,3,4,5,6,131,249,304,382,384,389,390,391,392,393,409,411,418,420,425,426] (Sk_c2 ty0 ty1 ty2 (Sk_om false n1 n2 k)) = some (Sk_c3 ty0 ty1 ty2 (Sk_om false n1 n2 k)):=by kernel_rfl
end Go.Proofs.YtclelomalmmpbaaGreatDoor
