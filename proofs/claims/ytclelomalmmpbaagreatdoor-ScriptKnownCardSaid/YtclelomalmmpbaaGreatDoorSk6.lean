import Derived.Test.YtclelomalmmpbaaGreatDoorSkD
set_option linter.unusedSimpArgs false
set_option linter.unusedVariables false
namespace Go.Proofs.YtclelomalmmpbaaGreatDoor
open Go Go.Run Go.Run.Sh
set_option maxRecDepth 1000000 in
theorem Sk_run6a (ty0:TypeId) (ty1:TypeId) (ty2:TypeId) (n1 n2 k:Nat):cutF Tryz.prog Tryz.runF 5 20000 [0,1,3,4,498,526,552,636,637,638,639,640,765,883,938,972,974,979,980,1036,1037,1088,1089,1090,1091] (Sk_c6 ty0 ty1 ty2 (Sk_om true n1 n2 k)) = some (Sk_c7 ty0 ty1 ty2 (Sk_om true n1 n2 k)):=by kernel_rfl
set_option maxRecDepth 1000000 in
theorem Sk_run6b (ty0:TypeId) (ty1:TypeId) (ty2:TypeId) (n1 n2 k:Nat):cutF Tryz.prog Tryz.runF 5 20000 [0,1,3,4,498,526,552,636,637,638,639,640,765,883,938,972,974,979,980,1036,1037,1088,1089,1090,1091] (Sk_c6 ty0 ty1 ty2 (Sk_om false n1 n2 k)) = some (Sk_c7 ty0 ty1 ty2 (Sk_om false n1 n2 k)):=by kernel_rfl
end Go.Proofs.YtclelomalmmpbaaGreatDoor
