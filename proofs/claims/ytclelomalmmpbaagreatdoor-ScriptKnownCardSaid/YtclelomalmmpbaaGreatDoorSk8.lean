import Derived.Test.YtclelomalmmpbaaGreatDoorSkD
set_option linter.unusedSimpArgs false
set_option linter.unusedVariables false
namespace Go.Proofs.YtclelomalmmpbaaGreatDoor
open Go Go.Run Go.Run.Sh
set_option maxRecDepth 1000000 in
theorem Sk_run8a (ty0:TypeId) (ty1:TypeId) (ty2:TypeId) (n1 n2 k:Nat):cutF Tryz.prog Tryz.runF 5 20002 [0,1,3,4,498,526,552,636,637,638,1088,1116,1136,1212,1213,1267,1268,1269,1270,1271,1272,1273,1274,1275,1276,1277,1278,1279,1280,1396,1398,1399,1400,1401,1402,1455,1458,1459,1460] (Sk_c8 ty0 ty1 ty2 (Sk_om true n1 n2 k)) = some (Sk_c9 ty0 ty1 ty2 (Sk_om true n1 n2 k)):=by kernel_rfl
set_option maxRecDepth 1000000 in
theorem Sk_run8b (ty0:TypeId) (ty1:TypeId) (ty2:TypeId) (n1 n2 k:Nat):cutF Tryz.prog Tryz.runF 5 20002 [0,1,3,4,498,526,552,636,637,638,1088,1116,1136,1212,1213,1267,1268,1269,1270,1271,1272,1273,1274,1275,1276,1277,1278,1279,1280,1396,1398,1399,1400,1401,1402,1455,1458,1459,1460] (Sk_c8 ty0 ty1 ty2 (Sk_om false n1 n2 k)) = some (Sk_c9 ty0 ty1 ty2 (Sk_om false n1 n2 k)):=by kernel_rfl
end Go.Proofs.YtclelomalmmpbaaGreatDoor
