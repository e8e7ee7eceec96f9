import Derived.Test.YtclelomalmmpbaaGreatDoorSkD
set_option linter.unusedSimpArgs false
set_option linter.unusedVariables false
namespace Go.Proofs.YtclelomalmmpbaaGreatDoor
open Go Go.Run Go.Run.Sh
set_option maxRecDepth 1000000 in
theorem Sk_run29a (ty0:TypeId) (ty1:TypeId) (ty2:TypeId) (n1 n2 k:Nat):cutF Tryz.prog Tryz.runF 5 20000 [0,1,3,4,498,526,552,636,637,638,1088,1116,1136,1212,1213,1267,1268,3908,3936,3966,4047,4048,4052,4053,4054,4565,4566,4567,4685,4686,4687,4693,4694,4695,4776,4777,4778,4779,4782,4783] (Sk_c29 ty0 ty1 ty2 (Sk_om true n1 n2 k)) = some (Sk_c30 ty0 ty1 ty2 (Sk_om true n1 n2 k)):=by kernel_rfl
set_option maxRecDepth 1000000 in
theorem Sk_run29b (ty0:TypeId) (ty1:TypeId) (ty2:TypeId) (n1 n2 k:Nat):cutF Tryz.prog Tryz.runF 5 20000 [0,1,3,4,498,526,552,636,637,638,1088,1116,1136,1212,1213,1267,1268,3908,3936,3966,4047,4048,4052,4053,4054,4565,4566,4567,4685,4686,4687,4693,4694,4695,4776,4777,4778,4779,4782,4783] (Sk_c29 ty0 ty1 ty2 (Sk_om false n1 n2 k)) = some (Sk_c30 ty0 ty1 ty2 (Sk_om false n1 n2 k)):=by kernel_rfl
end Go.Proofs.YtclelomalmmpbaaGreatDoor
