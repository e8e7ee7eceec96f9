import Derived.Test.YtjcbpfhlgebgdaaDoorXFu
import Derived.Test.YtjcbpfhlgebgdaaDoorXKp
import Derived.Test.YtjcbpfhlgebgdaaDoorX9
import Derived.Test.YtjcbpfhlgebgdaaDoorChecked
import Derived.KernelRfl
set_option linter.unusedSimpArgs false
set_option linter.unusedVariables false
namespace Go.Proofs.YtjcbpfhlgebgdaaDoor
open Go.X Go.Eng
noncomputable def bundle_Key:ID→Option ((List UInt8) × Int) :=
 fun id_1 =>
 (bundle_CheckID id_1).bind fun x_2 =>
 br (x_2 != (0:Int))
  (some (([]:List UInt8),x_2))
  ((strconv_Itoa id_1.Node).bind fun x_3 =>
  (catS x_3 ([46]:List UInt8)).bind fun x_4 =>
  (strconv_FormatUint (id_1.Seq,(10:Int))).bind fun x_5 =>
  (catS x_4 x_5).bind fun x_6 =>
  (catS x_6 ([46]:List UInt8)).bind fun x_7 =>
  (strconv_Itoa id_1.Off).bind fun x_8 =>
  (catS x_7 x_8).bind fun x_9 =>
  some (x_9,(0:Int)))
def bundle_Key.ann:Ann:=.no
set_option maxRecDepth 100000 in
theorem bundle_Key.fn:FnT Tryd.prog 138 [.d .ID] [.str,.i64] bundle_Key :=
 FnT.of (X:=ctx 0 [bundle_CheckID.spec,strconv_Itoa.spec,strconv_FormatUint.spec]) Tryd.mixed bundle_Key.ann Tryd.func138 rfl (by kernel_rfl) (Nat.le_of_ble_eq_true rfl) (fun x=>by kernel_rfl)
noncomputable def bundle_Key.spec:XSpec Tryd.prog:=XSpec.t 138 [.d .ID] [.str,.i64] bundle_Key (by kernel_rfl) bundle_Key.fn
end Go.Proofs.YtjcbpfhlgebgdaaDoor
