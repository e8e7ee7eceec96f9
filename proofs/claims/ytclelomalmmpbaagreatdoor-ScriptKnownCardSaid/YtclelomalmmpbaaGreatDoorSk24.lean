import Derived.Test.YtclelomalmmpbaaGreatDoorSkD
set_option linter.unusedSimpArgs false
set_option linter.unusedVariables false
namespace Go.Proofs.YtclelomalmmpbaaGreatDoor
open Go Go.Run Go.Run.Sh
set_option maxRecDepth 1000000 in
theorem Sk_run24a (ty0:TypeId) (ty1:TypeId) (ty2:TypeId) (n1 n2 k:Nat):cutF Tryz.prog Tryz.runF 5 20000 [0,1,3,4,498,526,552,636,637,638,1088,1116,1136,1212,1213,1267,1268,3446,3447,3448,3449,3450,3451,3452,3453,3454,3455,3456,3572,3574,3575,3576,3577,3578] (Sk_c24 ty0 ty1 ty2 (Sk_om true n1 n2 k)) = some (Sk_c25 ty0 ty1 ty2 (Sk_om true n1 n2 k)):=by kernel_rfl
set_option maxRecDepth 1000000 in
theorem Sk_run24b (ty0:TypeId) (ty1:TypeId) (ty2:TypeId) (n1 n2 k:Nat):cutF Tryz.prog Tryz.runF 5 20000 [0,1,3,4,498,526,552,636,637,638,1088,1116,1136,1212,1213,1267,1268,3446,3447,3448,3449,3450,3451,3452,3453,3454,3455,3456,3572,3574,3575,3576,3577,3578] (Sk_c24 ty0 ty1 ty2 (Sk_om false n1 n2 k)) = some (Sk_c25 ty0 ty1 ty2 (Sk_om false n1 n2 k)):=by kernel_rfl
end Go.Proofs.YtclelomalmmpbaaGreatDoor
