import Derived.Test.YtclelomalmmpbaaGreatDoorSkD
set_option linter.unusedSimpArgs false
set_option linter.unusedVariables false
namespace Go.Proofs.YtclelomalmmpbaaGreatDoor
open Go Go.Run Go.Run.Sh
set_option maxRecDepth 1000000 in
theorem Sk_run21a (ty0:TypeId) (ty1:TypeId) (ty2:TypeId) (n1 n2 k:Nat):cutF Tryz.prog Tryz.runF 5 20000 [0,1,3,4,498,526,552,636,637,638,1088,1116,1136,1212,1213,1267,1268,2887,2888,2889,3014,3132,3187,3207,3262,3264,3269,3270,3271,3272,3273,3289,3291,3298,3300,3305,3307,3312,3316] (Sk_c21 ty0 ty1 ty2 (Sk_om true n1 n2 k)) = some (Sk_c22 ty0 ty1 ty2 (Sk_om true n1 n2 k)):=by kernel_rfl
set_option maxRecDepth 1000000 in
theorem Sk_run21b (ty0:TypeId) (ty1:TypeId) (ty2:TypeId) (n1 n2 k:Nat):cutF Tryz.prog Tryz.runF 5 20000 [0,1,3,4,498,526,552,636,637,638,1088,1116,1136,1212,1213,1267,1268,2887,2888,2889,3014,3132,3187,3207,3262,3264,3269,3270,3271,3272,3273,3289,3291,3298,3300,3305,3307,3312,3316] (Sk_c21 ty0 ty1 ty2 (Sk_om false n1 n2 k)) = some (Sk_c22 ty0 ty1 ty2 (Sk_om false n1 n2 k)):=by kernel_rfl
end Go.Proofs.YtclelomalmmpbaaGreatDoor
