import Derived.Test.YtclelomalmmpbaaGreatDoorSkD
set_option linter.unusedSimpArgs false
set_option linter.unusedVariables false
namespace Go.Proofs.YtclelomalmmpbaaGreatDoor
open Go Go.Run Go.Run.Sh
set_option maxRecDepth 1000000 in
theorem Sk_run30a (ty0:TypeId) (ty1:TypeId) (ty2:TypeId) (n1 n2 k:Nat):runF Tryz.prog Tryz.runF 5 (fun v _=>veq v t) 21000 (Sk_c30 ty0 ty1 ty2 (Sk_om true n1 n2 k)) = true:=by kernel_rfl
set_option maxRecDepth 1000000 in
theorem Sk_run30b (ty0:TypeId) (ty1:TypeId) (ty2:TypeId) (n1 n2 k:Nat):runF Tryz.prog Tryz.runF 5 (fun v _=>veq v t) 21000 (Sk_c30 ty0 ty1 ty2 (Sk_om false n1 n2 k)) = true:=by kernel_rfl
end Go.Proofs.YtclelomalmmpbaaGreatDoor
