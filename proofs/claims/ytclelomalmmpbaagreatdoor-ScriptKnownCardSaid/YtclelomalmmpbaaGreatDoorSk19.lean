import Derived.Test.YtclelomalmmpbaaGreatDoorSkD
set_option linter.unusedSimpArgs false
set_option linter.unusedVariables false
namespace Go.Proofs.YtclelomalmmpbaaGreatDoor
open Go Go.Run Go.Run.Sh
set_option maxRecDepth 1000000 in
theorem Sk_run19a (ty0:TypeId) (ty1:TypeId) (ty2:TypeId) (n1 n2 k:Nat):cutF Tryz.prog Tryz.runF 5 20012 [0,1,3,4,498,526,552,636,637,638,1088,1116,1136,1212,1213,1267,1268,2887,2888,2889,2890,2891,2892,2893,2894,2895,2896,2897,2898,3014,3016,3017,3018,3019,3020] (Sk_c19 ty0 ty1 ty2 (Sk_om true n1 n2 k)) = some (Sk_c20 ty0 ty1 ty2 (Sk_om true n1 n2 k)):=by kernel_rfl
set_option maxRecDepth 1000000 in
theorem Sk_run19b (ty0:TypeId) (ty1:TypeId) (ty2:TypeId) (n1 n2 k:Nat):cutF Tryz.prog Tryz.runF 5 20012 [0,1,3,4,498,526,552,636,637,638,1088,1116,1136,1212,1213,1267,1268,2887,2888,2889,2890,2891,2892,2893,2894,2895,2896,2897,2898,3014,3016,3017,3018,3019,3020] (Sk_c19 ty0 ty1 ty2 (Sk_om false n1 n2 k)) = some (Sk_c20 ty0 ty1 ty2 (Sk_om false n1 n2 k)):=by kernel_rfl
end Go.Proofs.YtclelomalmmpbaaGreatDoor
