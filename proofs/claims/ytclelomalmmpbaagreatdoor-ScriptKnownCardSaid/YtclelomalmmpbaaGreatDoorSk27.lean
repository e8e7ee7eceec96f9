import Derived.Test.YtclelomalmmpbaaGreatDoorSkD
set_option linter.unusedSimpArgs false
set_option linter.unusedVariables false
namespace Go.Proofs.YtclelomalmmpbaaGreatDoor
open Go Go.Run Go.Run.Sh
set_option maxRecDepth 1000000 in
theorem Sk_run27a (ty0:TypeId) (ty1:TypeId) (ty2:TypeId) (n1 n2 k:Nat):cutF Tryz.prog Tryz.runF 5 20000 [0,1,3,4,498,526,552,636,637,638,1088,1116,1136,1212,1213,1267,1268,3908,3936,3966,4047,4048,4052,4053,4054,4055,4133,4134,4135,4192,4193,4194,4195,4203,4204,4207,4208,4209,4210] (Sk_c27 ty0 ty1 ty2 (Sk_om true n1 n2 k)) = some (Sk_c28 ty0 ty1 ty2 (Sk_om true n1 n2 k)):=by kernel_rfl
set_option maxRecDepth 1000000 in
theorem Sk_run27b (ty0:TypeId) (ty1:TypeId) (ty2:TypeId) (n1 n2 k:Nat):cutF Tryz.prog Tryz.runF 5 20000 [0,1,3,4,498,526,552,636,637,638,1088,1116,1136,1212,1213,1267,1268,3908,3936,3966,4047,4048,4052,4053,4054,4055,4133,4134,4135,4192,4193,4194,4195,4203,4204,4207,4208,4209,4210] (Sk_c27 ty0 ty1 ty2 (Sk_om false n1 n2 k)) = some (Sk_c28 ty0 ty1 ty2 (Sk_om false n1 n2 k)):=by kernel_rfl
end Go.Proofs.YtclelomalmmpbaaGreatDoor
