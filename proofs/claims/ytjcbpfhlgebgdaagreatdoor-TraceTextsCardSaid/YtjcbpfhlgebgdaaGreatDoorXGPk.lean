import Derived.Test.YtjcbpfhlgebgdaaGreatDoorP22v
import Derived.Test.YtjcbpfhlgebgdaaGreatDoorX9
import Derived.Test.YtjcbpfhlgebgdaaGreatDoorChecked
import Derived.KernelRfl
open Nat renaming le_of_ble_eq_true -> zvK
set_option linter.unusedSimpArgs false
set_option linter.unusedVariables false
namespace Go.Proofs.YtjcbpfhlgebgdaaGreatDoor
open Go.X Go.Eng
noncomputable def qG:((List Int) × Int)->Option Int :=
 fun (s_1,v_2) =>
 (qg (σ:=Int) (ρ:=(Int) ⊕ (Unit)) (fun x_3 =>
  br (decide (x_3 < (s_1.length:Int)))
   ((idx s_1 x_3).bind fun x_4 =>
   br (v_2 == x_4)
    (some (.done (.inl x_3)))
    ((zD .i64 x_3 1).bind fun x_5 =>
    some (.next x_5)))
   (some (.done (.inr ())))) 0).bind fun x_7 =>
 Sum.elim
  (fun x_6 =>
  some x_6)
  (fun _ =>
  some (-1)) x_7
def qG.ann:Ann:=(.two .no (.two (.two .no (.loop [4,5,8,9,10,11,12,13,14,15,16,17,18] [] [.slot 8 .i64 none] [(.ret,[.slot 4 .i64 none]),(.exit 0,[])] .no)) .no))
set_option maxRecDepth 100000 in
theorem qG.fn:FnT Tryz.prog 126 [.d .l_i64,.d .i64] [.i64] qG :=
 FnT.of (X:=ctx 0 []) Tryz.mixed qG.ann Tryz.func126 rfl (by kernel_rfl) (zvK rfl) (fun x=>by kernel_rfl)
noncomputable def qG.spec:zb Tryz.prog:=zb.t 126 [.d .l_i64,.d .i64] [.i64] qG (by kernel_rfl) qG.fn
noncomputable def zX:((List Int) × Int)->Option Bool :=
 fun (s_1,v_2) =>
 (qG (s_1,v_2)).bind fun x_3 =>
 some (decide (0 <= x_3))
def zX.ann:Ann:=.no
set_option maxRecDepth 100000 in
theorem zX.fn:FnT Tryz.prog 102 [.d .l_i64,.d .i64] [.bool] zX :=
 FnT.of (X:=ctx 0 [qG.spec]) Tryz.mixed zX.ann Tryz.func102 rfl (by kernel_rfl) (zvK rfl) (fun x=>by kernel_rfl)
noncomputable def zX.spec:zb Tryz.prog:=zb.t 102 [.d .l_i64,.d .i64] [.bool] zX (by kernel_rfl) zX.fn
noncomputable def qc:List W3->Option Bool :=
 fun l_1 =>
 (qg (σ:=Int) (ρ:=(Bool) ⊕ (Unit)) (fun x_2 =>
  br (decide (x_2 < (l_1.length:Int)))
   ((idx l_1 x_2).bind fun x_3 =>
   br (decide (x_3.a < x_3.b))
    (some (.done (.inl false)))
    (br (decide (x_3.c < x_3.a))
     (some (.done (.inl false)))
     ((zD .i64 x_2 1).bind fun x_4 =>
     some (.next x_4))))
   (some (.done (.inr ())))) 0).bind fun x_6 =>
 Sum.elim
  (fun x_5 =>
  some x_5)
  (fun _ =>
  some true) x_6
def qc.ann:Ann:=(.two .no (.two (.two .no (.loop [2,4,7,8,9,10,11,12,13,14,15,16,17,18,19,20,21,22,23] [] [.slot 7 .i64 none] [(.ret,[.slot 2 .bool none]),(.exit 0,[])] .no)) .no))
set_option maxRecDepth 100000 in
theorem qc.fn:FnT Tryz.prog 103 [.d .l_W3] [.bool] qc :=
 FnT.of (X:=ctx 0 []) Tryz.mixed qc.ann Tryz.func103 rfl (by kernel_rfl) (zvK rfl) (fun x=>by kernel_rfl)
noncomputable def qc.spec:zb Tryz.prog:=zb.t 103 [.d .l_W3] [.bool] qc (by kernel_rfl) qc.fn
noncomputable def zm:ID->Option Int :=
 fun id_1 =>
 (qc ([(⟨id_1.Node,1,16⟩:W3),(⟨id_1.Off,0,19999⟩:W3)]:List W3)).bind fun x_2 =>
 br (!x_2)
  (some 2)
  (br (decide (1099511627776 < id_1.Seq))
   (some 2)
   (some 0))
def zm.ann:Ann:=.no
set_option maxRecDepth 100000 in
theorem zm.fn:FnT Tryz.prog 68 [.d .ID] [.i64] zm :=
 FnT.of (X:=ctx 0 [qc.spec]) Tryz.mixed zm.ann Tryz.func68 rfl (by kernel_rfl) (zvK rfl) (fun x=>by kernel_rfl)
noncomputable def zm.spec:zb Tryz.prog:=zb.t 68 [.d .ID] [.i64] zm (by kernel_rfl) zm.fn
noncomputable def zd:ID->Option Int :=
 fun id_1 =>
 br (decide (id_1.Node < 1))
  (some 2)
  (br (decide (16 < id_1.Node))
   (some 2)
   (br (decide (1099511627776 < id_1.Seq))
    (some 2)
    (br (decide (id_1.Off < 0))
     (some 2)
     (br (decide (20000 <= id_1.Off))
      (some 2)
      (some 0)))))
def zd.ann:Ann:=.no
set_option maxRecDepth 100000 in
theorem zd.fn:FnT Tryz.prog 74 [.d .ID] [.i64] zd :=
 FnT.of (X:=ctx 0 []) Tryz.mixed zd.ann Tryz.func74 rfl (by kernel_rfl) (zvK rfl) (fun x=>by kernel_rfl)
noncomputable def zd.spec:zb Tryz.prog:=zb.t 74 [.d .ID] [.i64] zd (by kernel_rfl) zd.fn
end Go.Proofs.YtjcbpfhlgebgdaaGreatDoor
