import Derived.Test.YtjcbpfhlgebgdaaGreatDoorP22v
import Derived.Test.YtjcbpfhlgebgdaaGreatDoorX9
import Derived.Test.YtjcbpfhlgebgdaaGreatDoorChecked
import Derived.KernelRfl
set_option linter.unusedSimpArgs false
set_option linter.unusedVariables false
namespace Go.Proofs.YtjcbpfhlgebgdaaGreatDoor
open Go.X Go.Eng
noncomputable def yV:List W3->Option Bool :=
 fun l_1 =>
 (qO (σ:=Int) (ρ:=(Bool) ⊕ (Unit)) (fun x_2 =>
  br (decide (x_2 < (l_1.length:Int)))
   ((idx l_1 x_2).bind fun x_3 =>
   br (decide (x_3.a < x_3.b))
    (some (.done (.inl false)))
    (br (decide (x_3.c < x_3.a))
     (some (.done (.inl false)))
     ((zO .i64 x_2 1).bind fun x_4 =>
     some (.next x_4))))
   (some (.done (.inr ())))) 0).bind fun x_6 =>
 Sum.elim
  (fun x_5 =>
  some x_5)
  (fun _ =>
  some true) x_6
def yV.ann:Ann:=(.two .no (.two (.two .no (.loop [2,4,7,8,9,10,11,12,13,14,15,16,17,18,19,20,21,22,23] [] [.slot 7 .i64 none] [(.ret,[.slot 2 .bool none]),(.exit 0,[])] .no)) .no))
set_option maxRecDepth 100000 in
theorem yV.fn:FnT Tryz.prog 103 [.d .l_W3] [.bool] yV :=
 FnT.of (X:=ctx 0 []) Tryz.mixed yV.ann Tryz.func103 rfl (by kernel_rfl) (Nat.le_of_ble_eq_true rfl) (fun x=>by kernel_rfl)
noncomputable def yV.spec:ze Tryz.prog:=ze.t 103 [.d .l_W3] [.bool] yV (by kernel_rfl) yV.fn
noncomputable def yu:ID->Option Int :=
 fun id_1 =>
 (yV ([(⟨id_1.Node,1,16⟩:W3),(⟨id_1.Off,0,19999⟩:W3)]:List W3)).bind fun x_2 =>
 br (!x_2)
  (some 2)
  (br (decide (1099511627776 < id_1.Seq))
   (some 2)
   (some 0))
def yu.ann:Ann:=.no
set_option maxRecDepth 100000 in
theorem yu.fn:FnT Tryz.prog 68 [.d .ID] [.i64] yu :=
 FnT.of (X:=ctx 0 [yV.spec]) Tryz.mixed yu.ann Tryz.func68 rfl (by kernel_rfl) (Nat.le_of_ble_eq_true rfl) (fun x=>by kernel_rfl)
noncomputable def yu.spec:ze Tryz.prog:=ze.t 68 [.d .ID] [.i64] yu (by kernel_rfl) yu.fn
end Go.Proofs.YtjcbpfhlgebgdaaGreatDoor
