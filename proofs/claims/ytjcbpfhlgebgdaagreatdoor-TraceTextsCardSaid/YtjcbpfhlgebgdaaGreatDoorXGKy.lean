import Derived.Test.YtjcbpfhlgebgdaaGreatDoorXFu
import Derived.Test.YtjcbpfhlgebgdaaGreatDoorXKr
import Derived.Test.YtjcbpfhlgebgdaaGreatDoorX9
import Derived.Test.YtjcbpfhlgebgdaaGreatDoorChecked
import Derived.KernelRfl
set_option linter.unusedSimpArgs false
set_option linter.unusedVariables false
namespace Go.Proofs.YtjcbpfhlgebgdaaGreatDoor
open Go.X Go.Eng
noncomputable def qT:ID->Option ((List UInt8) × Int) :=
 fun id_1 =>
 (zm id_1).bind fun x_2 =>
 br (x_2 != 0)
  (some (([]:List UInt8),x_2))
  ((strconv_Itoa id_1.Node).bind fun x_3 =>
  (qQ x_3 ([46]:List UInt8)).bind fun x_4 =>
  (yG (id_1.Seq,10)).bind fun x_5 =>
  (qQ x_4 x_5).bind fun x_6 =>
  (qQ x_6 ([46]:List UInt8)).bind fun x_7 =>
  (strconv_Itoa id_1.Off).bind fun x_8 =>
  (qQ x_7 x_8).bind fun x_9 =>
  some (x_9,0))
def qT.ann:Ann:=.no
set_option maxRecDepth 100000 in
theorem qT.fn:FnT Tryz.prog 43 [.d .ID] [.str,.i64] qT :=
 FnT.of (X:=ctx 0 [zm.spec,strconv_Itoa.spec,yG.spec]) Tryz.mixed qT.ann Tryz.func43 rfl (by kernel_rfl) (Nat.le_of_ble_eq_true rfl) (fun x=>by kernel_rfl)
noncomputable def qT.spec:zb Tryz.prog:=zb.t 43 [.d .ID] [.str,.i64] qT (by kernel_rfl) qT.fn
end Go.Proofs.YtjcbpfhlgebgdaaGreatDoor
