import Derived.Test.YtclelomalmmpbaaGreatDoorSkD
set_option linter.unusedSimpArgs false
set_option linter.unusedVariables false
namespace Go.Proofs.YtclelomalmmpbaaGreatDoor
open Go Go.Run Go.Run.Sh
set_option maxRecDepth 1000000 in
theorem Sk_run11a (ty0:TypeId) (ty1:TypeId) (ty2:TypeId) (n1 n2 k:Nat):cutF Tryz.prog Tryz.runF 5 20000 [0,1,3,4,498,526,552,636,637,638,1088,1116,1136,1212,1213,1267,1268,1835,1836,1837,1838,1839,1840,1841,1842,1843,1844,1845,1846,1962,1964,1965,1966,1967,1968,1981,1984,1985,1986] (Sk_c11 ty0 ty1 ty2 (Sk_om true n1 n2 k)) = some (Sk_c12 ty0 ty1 ty2 (Sk_om true n1 n2 k)):=by kernel_rfl
set_option maxRecDepth 1000000 in
theorem Sk_run11b (ty0:TypeId) (ty1:TypeId) (ty2:TypeId) (n1 n2 k:Nat):cutF Tryz.prog Tryz.runF 5 20000 [0,1,3,4,498,526,552,636,637,638,1088,1116,1136,1212,1213,1267,1268,1835,1836,1837,1838,1839,1840,1841,1842,1843,1844,1845,1846,1962,1964,1965,1966,1967,1968,1981,1984,1985,1986] (Sk_c11 ty0 ty1 ty2 (Sk_om false n1 n2 k)) = some (Sk_c12 ty0 ty1 ty2 (Sk_om false n1 n2 k)):=by kernel_rfl
end Go.Proofs.YtclelomalmmpbaaGreatDoor
