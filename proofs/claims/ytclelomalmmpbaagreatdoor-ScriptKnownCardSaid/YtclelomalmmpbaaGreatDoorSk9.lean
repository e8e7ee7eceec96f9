import Derived.Test.YtclelomalmmpbaaGreatDoorSkD
set_option linter.unusedSimpArgs false
set_option linter.unusedVariables false
namespace Go.Proofs.YtclelomalmmpbaaGreatDoor
open Go Go.Run Go.Run.Sh
set_option maxRecDepth 1000000 in
theorem Sk_run9a (ty0:TypeId) (ty1:TypeId) (ty2:TypeId) (n1 n2 k:Nat):cutF Tryz.prog Tryz.runF 5 20000 [0,1,3,4,498,526,552,636,637,638,1088,1116,1136,1212,1213,1267,1268,1269,1270,1271,1396,1514,1569,1596,1598,1603,1604,1605,1606,1607,1623,1625,1626,1627] (Sk_c9 ty0 ty1 ty2 (Sk_om true n1 n2 k)) = some (Sk_c10 ty0 ty1 ty2 (Sk_om true n1 n2 k)):=by kernel_rfl
set_option maxRecDepth 1000000 in
theorem Sk_run9b (ty0:TypeId) (ty1:TypeId) (ty2:TypeId) (n1 n2 k:Nat):cutF Tryz.prog Tryz.runF 5 20000 [0,1,3,4,498,526,552,636,637,638,1088,1116,1136,1212,1213,1267,1268,1269,1270,1271,1396,1514,1569,1596,1598,1603,1604,1605,1606,1607,1623,1625,1626,1627] (Sk_c9 ty0 ty1 ty2 (Sk_om false n1 n2 k)) = some (Sk_c10 ty0 ty1 ty2 (Sk_om false n1 n2 k)):=by kernel_rfl
end Go.Proofs.YtclelomalmmpbaaGreatDoor
