import Derived.Test.YtjcbpfhlgebgdaaGreatDoorXFu
import Derived.Test.YtjcbpfhlgebgdaaGreatDoorXGPk
import Derived.Test.YtjcbpfhlgebgdaaGreatDoorX9
import Derived.Test.YtjcbpfhlgebgdaaGreatDoorChecked
import Derived.KernelRfl
set_option linter.unusedSimpArgs false
set_option linter.unusedVariables false
namespace Go.Proofs.YtjcbpfhlgebgdaaGreatDoor
open Go.X Go.Eng
noncomputable def yQ:ID->Option ((List UInt8) × Int) :=
 fun id_1 =>
 (yu id_1).bind fun x_2 =>
 br (x_2 != 0)
  (some (([]:List UInt8),x_2))
  ((strconv_Itoa id_1.Node).bind fun x_3 =>
  (zaF x_3 ([46]:List UInt8)).bind fun x_4 =>
  (yx (id_1.Seq,10)).bind fun x_5 =>
  (zaF x_4 x_5).bind fun x_6 =>
  (zaF x_6 ([46]:List UInt8)).bind fun x_7 =>
  (strconv_Itoa id_1.Off).bind fun x_8 =>
  (zaF x_7 x_8).bind fun x_9 =>
  some (x_9,0))
def yQ.ann:Ann:=.no
set_option maxRecDepth 100000 in
theorem yQ.fn:FnT Tryz.prog 43 [.d .ID] [.str,.i64] yQ :=
 FnT.of (X:=ctx 0 [yu.spec,strconv_Itoa.spec,yx.spec]) Tryz.mixed yQ.ann Tryz.func43 rfl (by kernel_rfl) (Nat.le_of_ble_eq_true rfl) (fun x=>by kernel_rfl)
noncomputable def yQ.spec:ze Tryz.prog:=ze.t 43 [.d .ID] [.str,.i64] yQ (by kernel_rfl) yQ.fn
end Go.Proofs.YtjcbpfhlgebgdaaGreatDoor
