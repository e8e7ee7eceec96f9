import Derived.Test.YtjcbpfhlgebgdaaGreatDoorXGKy
import Derived.Test.YtjcbpfhlgebgdaaGreatDoorX9
import Derived.Test.YtjcbpfhlgebgdaaGreatDoorChecked
import Derived.KernelRfl
open Nat renaming le_of_ble_eq_true -> zue
set_option linter.unusedSimpArgs false
set_option linter.unusedVariables false
namespace Go.Proofs.YtjcbpfhlgebgdaaGreatDoor
open Go.X Go.Eng
noncomputable def yS:Mrk->Option Int :=
 fun m_1 =>
 (yu m_1.ID).bind fun x_2 =>
 br (x_2 != 0)
  (some 2)
  (br (decide (m_1.Until < 0))
   (some 2)
   (br (decide (1099512676352 < m_1.Until))
    (some 2)
    (some 0)))
def yS.ann:Ann:=.no
set_option maxRecDepth 100000 in
theorem yS.fn:FnT Tryz.prog 49 [.d .Mrk] [.i64] yS :=
 FnT.of (X:=ctx 0 [yu.spec]) Tryz.mixed yS.ann Tryz.func49 rfl (by kernel_rfl) (zue rfl) (fun x=>by kernel_rfl)
noncomputable def yS.spec:ze Tryz.prog:=ze.t 49 [.d .Mrk] [.i64] yS (by kernel_rfl) yS.fn
noncomputable def qW:Int->Option Bool :=
 fun x_1 =>
 some (x_1 != x_1)
def qW.ann:Ann:=.no
set_option maxRecDepth 100000 in
theorem qW.fn:FnT Tryz.prog 117 [.d .i64] [.bool] qW :=
 FnT.of (X:=ctx 0 []) Tryz.mixed qW.ann Tryz.func117 rfl (by kernel_rfl) (zue rfl) (fun x=>by kernel_rfl)
noncomputable def qW.spec:ze Tryz.prog:=ze.t 117 [.d .i64] [.bool] qW (by kernel_rfl) qW.fn
noncomputable def qn:(Int × Int)->Option Int :=
 fun (x_1,y_2) =>
 (qW x_1).bind fun x_3 =>
 (qW y_2).bind fun x_4 =>
 br x_3
  (br x_4
   (some 0)
   (some (-1)))
  (br x_4
   (some 1)
   (br (decide (x_1 < y_2))
    (some (-1))
    (br (decide (y_2 < x_1))
     (some 1)
     (some 0))))
def qn.ann:Ann:=.no
set_option maxRecDepth 100000 in
theorem qn.fn:FnT Tryz.prog 92 [.d .i64,.d .i64] [.i64] qn :=
 FnT.of (X:=ctx 0 [qW.spec]) Tryz.mixed qn.ann Tryz.func92 rfl (by kernel_rfl) (zue rfl) (fun x=>by kernel_rfl)
noncomputable def qn.spec:ze Tryz.prog:=ze.t 92 [.d .i64,.d .i64] [.i64] qn (by kernel_rfl) qn.fn
noncomputable def qo:Int->Option Bool :=
 fun x_1 =>
 some (x_1 != x_1)
def qo.ann:Ann:=.no
set_option maxRecDepth 100000 in
theorem qo.fn:FnT Tryz.prog 118 [.d .u64] [.bool] qo :=
 FnT.of (X:=ctx 0 []) Tryz.mixed qo.ann Tryz.func118 rfl (by kernel_rfl) (zue rfl) (fun x=>by kernel_rfl)
noncomputable def qo.spec:ze Tryz.prog:=ze.t 118 [.d .u64] [.bool] qo (by kernel_rfl) qo.fn
noncomputable def yU:(Int × Int)->Option Int :=
 fun (x_1,y_2) =>
 (qo x_1).bind fun x_3 =>
 (qo y_2).bind fun x_4 =>
 br x_3
  (br x_4
   (some 0)
   (some (-1)))
  (br x_4
   (some 1)
   (br (decide (x_1 < y_2))
    (some (-1))
    (br (decide (y_2 < x_1))
     (some 1)
     (some 0))))
def yU.ann:Ann:=.no
set_option maxRecDepth 100000 in
theorem yU.fn:FnT Tryz.prog 93 [.d .u64,.d .u64] [.i64] yU :=
 FnT.of (X:=ctx 0 [qo.spec]) Tryz.mixed yU.ann Tryz.func93 rfl (by kernel_rfl) (zue rfl) (fun x=>by kernel_rfl)
noncomputable def yU.spec:ze Tryz.prog:=ze.t 93 [.d .u64,.d .u64] [.i64] yU (by kernel_rfl) yU.fn
noncomputable def QZ:List Int->Option Int :=
 fun vals_1 =>
 (qO (σ:=Int) (ρ:=(Int) ⊕ (Unit)) (fun x_2 =>
  br (decide (x_2 < (vals_1.length:Int)))
   ((idx vals_1 x_2).bind fun x_3 =>
   br (x_3 != 0)
    (some (.done (.inl x_3)))
    ((zO .i64 x_2 1).bind fun x_4 =>
    some (.next x_4)))
   (some (.done (.inr ())))) 0).bind fun x_6 =>
 Sum.elim
  (fun x_5 =>
  some x_5)
  (fun _ =>
  some 0) x_6
def QZ.ann:Ann:=(.two .no (.two .no (.two (.two .no (.loop [2,5,8,9,10,11,12,13,14,15,16] [] [.slot 8 .i64 none] [(.ret,[.slot 2 .i64 none]),(.exit 0,[])] .no)) .no)))
set_option maxRecDepth 100000 in
theorem QZ.fn:FnT Tryz.prog 91 [.d .l_i64] [.i64] QZ :=
 FnT.of (X:=ctx 0 []) Tryz.mixed QZ.ann Tryz.func91 rfl (by kernel_rfl) (zue rfl) (fun x=>by kernel_rfl)
noncomputable def QZ.spec:ze Tryz.prog:=ze.t 91 [.d .l_i64] [.i64] QZ (by kernel_rfl) QZ.fn
noncomputable def zB:(ID × ID)->Option Int :=
 fun (a_1,b_2) =>
 (qn (a_1.Node,b_2.Node)).bind fun x_3 =>
 (yU (a_1.Seq,b_2.Seq)).bind fun x_4 =>
 (qn (a_1.Off,b_2.Off)).bind fun x_5 =>
 (QZ ([x_3,x_4,x_5]:List Int)).bind fun x_6 =>
 some x_6
def zB.ann:Ann:=.no
set_option maxRecDepth 100000 in
theorem zB.fn:FnT Tryz.prog 50 [.d .ID,.d .ID] [.i64] zB :=
 FnT.of (X:=ctx 0 [qn.spec,yU.spec,QZ.spec]) Tryz.mixed zB.ann Tryz.func50 rfl (by kernel_rfl) (zue rfl) (fun x=>by kernel_rfl)
noncomputable def zB.spec:ze Tryz.prog:=ze.t 50 [.d .ID,.d .ID] [.i64] zB (by kernel_rfl) zB.fn
noncomputable def zz:List Mrk->Option (Int × Int) :=
 fun l_1 =>
 (qO (σ:=Int) (ρ:=(Int × Int) ⊕ (Unit)) (fun x_2 =>
  br (decide (x_2 < (l_1.length:Int)))
   ((idx l_1 x_2).bind fun x_3 =>
   (yS x_3).bind fun x_4 =>
   br (x_4 != 0)
    (some (.done (.inl (x_4,x_2))))
    (br (decide (0 < x_2))
     ((Yb .i64 x_2 1).bind fun x_5 =>
     (idx l_1 x_5).bind fun x_6 =>
     (zB (x_6.ID,x_3.ID)).bind fun x_7 =>
     br (decide (0 <= x_7))
      (some (.done (.inl (19,x_2))))
      ((zO .i64 x_2 1).bind fun x_8 =>
      some (.next x_8)))
     ((zO .i64 x_2 1).bind fun x_9 =>
     some (.next x_9))))
   (some (.done (.inr ())))) 0).bind fun x_12 =>
 Sum.elim
  (fun (x_10,x_11) =>
  some (x_10,x_11))
  (fun _ =>
  some (0,0)) x_12
def zz.ann:Ann:=(.two .no (.two (.two .no (.loop [2,3,4,5,6,9,10,11,12,13,14,15,16,17,18,19,20,21,22,23,24,25,26,27,28,29,30,31,32,33,34,35] [] [.slot 9 .i64 none] [(.ret,[.slot 2 .i64 none,.slot 3 .i64 none]),(.exit 0,[])] .no)) .no))
set_option maxRecDepth 100000 in
theorem zz.fn:FnT Tryz.prog 42 [.d .l_Mrk] [.i64,.i64] zz :=
 FnT.of (X:=ctx 0 [yS.spec,zB.spec]) Tryz.mixed zz.ann Tryz.func42 rfl (by kernel_rfl) (zue rfl) (fun x=>by kernel_rfl)
noncomputable def zz.spec:ze Tryz.prog:=ze.t 42 [.d .l_Mrk] [.i64,.i64] zz (by kernel_rfl) zz.fn
end Go.Proofs.YtjcbpfhlgebgdaaGreatDoor
