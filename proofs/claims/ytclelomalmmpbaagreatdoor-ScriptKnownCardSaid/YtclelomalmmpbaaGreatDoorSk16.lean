import Derived.Test.YtclelomalmmpbaaGreatDoorSkD
set_option linter.unusedSimpArgs false
set_option linter.unusedVariables false
namespace Go.Proofs.YtclelomalmmpbaaGreatDoor
open Go Go.Run Go.Run.Sh
set_option maxRecDepth 1000000 in
theorem Sk_run16a (ty0:TypeId) (ty1:TypeId) (ty2:TypeId) (n1 n2 k:Nat):cutF Tryz.prog Tryz.runF 5 20000 [0,1,3,4,498,526,552,636,637,638,1088,1116,1136,1212,1213,1267,1268,2409,2410,2411,2536,2654,2709,2722,2724,2729,2730,2732,2733,2784,2785,2786,2787] (Sk_c16 ty0 ty1 ty2 (Sk_om true n1 n2 k)) = some (Sk_c17 ty0 ty1 ty2 (Sk_om true n1 n2 k)):=by kernel_rfl
set_option maxRecDepth 1000000 in
theorem Sk_run16b (ty0:TypeId) (ty1:TypeId) (ty2:TypeId) (n1 n2 k:Nat):cutF Tryz.prog Tryz.runF 5 20000 [0,1,3,4,498,526,552,636,637,638,1088,1116,1136,1212,1213,1267,1268,2409,2410,2411,2536,2654,2709,2722,2724,2729,2730,2732,2733,2784,2785,2786,2787] (Sk_c16 ty0 ty1 ty2 (Sk_om false n1 n2 k)) = some (Sk_c17 ty0 ty1 ty2 (Sk_om false n1 n2 k)):=by kernel_rfl
end Go.Proofs.YtclelomalmmpbaaGreatDoor
