import Derived.Test.YtjcbpfhlgebgdaaDoorP22v
import Derived.Test.YtjcbpfhlgebgdaaDoorX9
import Derived.Test.YtjcbpfhlgebgdaaDoorChecked
import Derived.KernelRfl
set_option linter.unusedSimpArgs false
set_option linter.unusedVariables false
namespace Go.Proofs.YtjcbpfhlgebgdaaDoor
open Go.X Go.Eng
noncomputable def slices_Index:((List Int) × Int)→Option Int :=
 fun (s_1,v_2) =>
 (iter (σ:=Int) (ρ:=(Int) ⊕ (Unit)) (fun x_3 =>
  br (decide (x_3 < (s_1.length:Int)))
   ((idx s_1 x_3).bind fun x_4 =>
   br (v_2 == x_4)
    (some (.done (.inl x_3)))
    ((addI .i64 x_3 (1:Int)).bind fun x_5 =>
    some (.next x_5)))
   (some (.done (.inr ())))) (0:Int)).bind fun x_7 =>
 Sum.elim
  (fun x_6 =>
  some x_6)
  (fun _ =>
  some (-1:Int)) x_7
def slices_Index.ann:Ann:=(.two .no (.two (.two .no (.loop [4,5,8,9,10,11,12,13,14,15,16,17,18] [] [.slot 8 .i64 none] [(.ret,[.slot 4 .i64 none]),(.exit 0,[])] .no)) .no))
set_option maxRecDepth 100000 in
theorem slices_Index.fn:FnT Tryd.prog 193 [.d .l_i64,.d .i64] [.i64] slices_Index :=
 FnT.of (X:=ctx 0 []) Tryd.mixed slices_Index.ann Tryd.func193 rfl (by kernel_rfl) (Nat.le_of_ble_eq_true rfl) (fun x=>by kernel_rfl)
noncomputable def slices_Index.spec:XSpec Tryd.prog:=XSpec.t 193 [.d .l_i64,.d .i64] [.i64] slices_Index (by kernel_rfl) slices_Index.fn
noncomputable def slices_Contains:((List Int) × Int)→Option Bool :=
 fun (s_1,v_2) =>
 (slices_Index (s_1,v_2)).bind fun x_3 =>
 some (decide ((0:Int) ≤ x_3))
def slices_Contains.ann:Ann:=.no
set_option maxRecDepth 100000 in
theorem slices_Contains.fn:FnT Tryd.prog 168 [.d .l_i64,.d .i64] [.bool] slices_Contains :=
 FnT.of (X:=ctx 0 [slices_Index.spec]) Tryd.mixed slices_Contains.ann Tryd.func168 rfl (by kernel_rfl) (Nat.le_of_ble_eq_true rfl) (fun x=>by kernel_rfl)
noncomputable def slices_Contains.spec:XSpec Tryd.prog:=XSpec.t 168 [.d .l_i64,.d .i64] [.bool] slices_Contains (by kernel_rfl) slices_Contains.fn
noncomputable def bundle_within:List W3→Option Bool :=
 fun l_1 =>
 (iter (σ:=Int) (ρ:=(Bool) ⊕ (Unit)) (fun x_2 =>
  br (decide (x_2 < (l_1.length:Int)))
   ((idx l_1 x_2).bind fun x_3 =>
   br (decide (x_3.a < x_3.b))
    (some (.done (.inl false)))
    (br (decide (x_3.c < x_3.a))
     (some (.done (.inl false)))
     ((addI .i64 x_2 (1:Int)).bind fun x_4 =>
     some (.next x_4))))
   (some (.done (.inr ())))) (0:Int)).bind fun x_6 =>
 Sum.elim
  (fun x_5 =>
  some x_5)
  (fun _ =>
  some true) x_6
def bundle_within.ann:Ann:=(.two .no (.two (.two .no (.loop [2,4,7,8,9,10,11,12,13,14,15,16,17,18,19,20,21,22,23] [] [.slot 7 .i64 none] [(.ret,[.slot 2 .bool none]),(.exit 0,[])] .no)) .no))
set_option maxRecDepth 100000 in
theorem bundle_within.fn:FnT Tryd.prog 165 [.d .l_W3] [.bool] bundle_within :=
 FnT.of (X:=ctx 0 []) Tryd.mixed bundle_within.ann Tryd.func165 rfl (by kernel_rfl) (Nat.le_of_ble_eq_true rfl) (fun x=>by kernel_rfl)
noncomputable def bundle_within.spec:XSpec Tryd.prog:=XSpec.t 165 [.d .l_W3] [.bool] bundle_within (by kernel_rfl) bundle_within.fn
noncomputable def bundle_CheckID:ID→Option Int :=
 fun id_1 =>
 (bundle_within ([(⟨id_1.Node,(1:Int),(16:Int)⟩:W3),(⟨id_1.Off,(0:Int),(19999:Int)⟩:W3)]:List W3)).bind fun x_2 =>
 br (!x_2)
  (some (2:Int))
  (br (decide ((1099511627776:Int) < id_1.Seq))
   (some (2:Int))
   (some (0:Int)))
def bundle_CheckID.ann:Ann:=.no
set_option maxRecDepth 100000 in
theorem bundle_CheckID.fn:FnT Tryd.prog 125 [.d .ID] [.i64] bundle_CheckID :=
 FnT.of (X:=ctx 0 [bundle_within.spec]) Tryd.mixed bundle_CheckID.ann Tryd.func125 rfl (by kernel_rfl) (Nat.le_of_ble_eq_true rfl) (fun x=>by kernel_rfl)
noncomputable def bundle_CheckID.spec:XSpec Tryd.prog:=XSpec.t 125 [.d .ID] [.i64] bundle_CheckID (by kernel_rfl) bundle_CheckID.fn
end Go.Proofs.YtjcbpfhlgebgdaaDoor
