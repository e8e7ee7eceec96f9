import Derived.Test.YtjcbpfhlgebgdaaGreatDoorXTx
import Derived.Test.YtjcbpfhlgebgdaaGreatDoorX9
import Derived.Test.YtjcbpfhlgebgdaaGreatDoorChecked
import Derived.KernelRfl
open Nat renaming le_of_ble_eq_true -> zvK
set_option linter.unusedSimpArgs false
set_option linter.unusedVariables false
namespace Go.Proofs.YtjcbpfhlgebgdaaGreatDoor
open Go.X Go.Eng
noncomputable def yh:List Outc->Option Bool :=
 fun l_1 =>
 br (decide ((l_1.length:Int) <= 80))
  (some true)
  (br (decide (5000 < (l_1.length:Int)))
   (some (decide ((l_1.length:Int) <= 5010)))
   (some false))
def yh.ann:Ann:=.no
set_option maxRecDepth 100000 in
theorem yh.fn:FnT Tryz.prog 5 [.d .l_Outc] [.bool] yh :=
 FnT.of (X:=ctx 0 []) Tryz.mixed yh.ann Tryz.func5 rfl (by kernel_rfl) (zvK rfl) (fun x=>by kernel_rfl)
noncomputable def yh.spec:zb Tryz.prog:=zb.t 5 [.d .l_Outc] [.bool] yh (by kernel_rfl) yh.fn
noncomputable def zh:Unit->Option (List Outc) :=
 fun _ =>
 some ([(⟨5,1,1,(⟨1,7,0⟩:ID),0⟩:Outc),(⟨8,2,6,(⟨1,7,0⟩:ID),1⟩:Outc),(⟨8,1,7,(⟨1,7,0⟩:ID),2⟩:Outc),(⟨9,2,8,(⟨1,7,0⟩:ID),0⟩:Outc)]:List Outc)
def zh.ann:Ann:=.no
set_option maxRecDepth 100000 in
theorem zh.fn:FnT Tryz.prog 19 [] [.l_Outc] zh :=
 FnT.of (X:=ctx 0 []) Tryz.mixed zh.ann Tryz.func19 rfl (by kernel_rfl) (zvK rfl) (fun x=>by kernel_rfl)
noncomputable def zh.spec:zb Tryz.prog:=zb.t 19 [] [.l_Outc] zh (by kernel_rfl) zh.fn
set_option maxRecDepth 100000 in
theorem zh.fo:zhy Tryz.prog 19 [] .Outc 53 zh :=
 zhy.of (X:=ctx 0 []) Tryz.mixed zh.ann Tryz.func19 rfl (by kernel_rfl) (zvK rfl) (fun x=>by kernel_rfl)
noncomputable def zh.ow:zbg Tryz.prog:=zbg.t 19 [] .Outc 53 zh (by kernel_rfl) zh.fo
noncomputable def ZJ:Outc->ID->Option ((Bool) × (ID)) :=
 fun o_1 x_2 =>
 some (((o_1.ID.Node == x_2.Node) && ((o_1.ID.Seq == x_2.Seq) && (o_1.ID.Off == x_2.Off))),x_2)
def ZJ.ann:Ann:=.no
set_option maxRecDepth 100000 in
theorem ZJ.fn:FnB Tryz.prog 95 [.d .Outc,.l 0 0] [(.ID,46)] [.bool] ZJ :=
 FnB.of (X:=ctx 0 []) Tryz.mixed ZJ.ann Tryz.func95 rfl (by kernel_rfl) (zvK rfl) (fun x y=>by kernel_rfl)
noncomputable def ZJ.spec:zb Tryz.prog:=zb.b 95 [.d .Outc,.l 0 0] [(.ID,46)] [.bool] ZJ (by kernel_rfl) ZJ.fn
noncomputable def yD:List Outc->ID->Option ((List Outc) × (ID)) :=
 fun l_1 x_2 =>
 (qg (σ:=(List Outc) × Int × ID) (ρ:=(List Outc) × ID) (fun (out_3,x_4,x_5) =>
  br (decide (x_4 < (l_1.length:Int)))
   ((idx l_1 x_4).bind fun x_6 =>
   (ZJ x_6 x_5).bind fun (x_7,x_8) =>
   br x_7
    ((app 56 out_3 ([x_6]:List Outc)).bind fun x_9 =>
    (zD .i64 x_4 1).bind fun x_10 =>
    some (.next (x_9,x_10,x_8)))
    ((zD .i64 x_4 1).bind fun x_11 =>
    some (.next (out_3,x_11,x_8))))
   (some (.done (out_3,x_5)))) (([]:List Outc),0,x_2)).bind fun (out_12,x_13) =>
 some (out_12,x_13)
def yD.ann:Ann:=(.two .no (.two .no (.two (.two .no (.loop [5,7,10,11,12,13,14,15,16,17,18,19,20,21] [0] [.slot 5 .l_Outc (some (5,53)),.slot 10 .i64 none,.box 0 .ID] [(.exit 0,[.slot 5 .l_Outc (some (5,53)),.box 0 .ID])] .no)) .no)))
set_option maxRecDepth 100000 in
theorem yD.fn:FnB Tryz.prog 53 [.d .l_Outc,.f 95 [0]] [(.ID,46)] [.l_Outc] yD :=
 FnB.of (X:=ctx 0 [ZJ.spec]) Tryz.mixed yD.ann Tryz.func53 rfl (by kernel_rfl) (zvK rfl) (fun x y=>by kernel_rfl)
noncomputable def yD.spec:zb Tryz.prog:=zb.b 53 [.d .l_Outc,.f 95 [0]] [(.ID,46)] [.l_Outc] yD (by kernel_rfl) yD.fn
noncomputable def Ye:((List Outc) × ID)->Option ((List Outc) × Int) :=
 fun (l_1,id_2) =>
 (qa l_1).bind fun x_3 =>
 br (x_3 != 0)
  (some (([]:List Outc),x_3))
  ((zm id_2).bind fun x_4 =>
  br (x_4 != 0)
   (some (([]:List Outc),2))
   ((yD l_1 id_2).bind fun (x_5,x_6) =>
   some (x_5,0)))
def Ye.ann:Ann:=.no
set_option maxRecDepth 100000 in
theorem Ye.fn:FnT Tryz.prog 52 [.d .l_Outc,.d .ID] [.l_Outc,.i64] Ye :=
 FnT.of (X:=ctx 0 [qa.spec,zm.spec,yD.spec]) Tryz.mixed Ye.ann Tryz.func52 rfl (by kernel_rfl) (zvK rfl) (fun x=>by kernel_rfl)
noncomputable def Ye.spec:zb Tryz.prog:=zb.t 52 [.d .l_Outc,.d .ID] [.l_Outc,.i64] Ye (by kernel_rfl) Ye.fn
noncomputable def yY:Outc->Option Bool :=
 fun o_1 =>
 br (o_1.Kind == 1)
  (some true)
  (some (o_1.Kind == 8))
def yY.ann:Ann:=.no
set_option maxRecDepth 100000 in
theorem yY.fn:FnT Tryz.prog 54 [.d .Outc] [.bool] yY :=
 FnT.of (X:=ctx 0 []) Tryz.mixed yY.ann Tryz.func54 rfl (by kernel_rfl) (zvK rfl) (fun x=>by kernel_rfl)
noncomputable def yY.spec:zb Tryz.prog:=zb.t 54 [.d .Outc] [.bool] yY (by kernel_rfl) yY.fn
noncomputable def zI:List Outc->Option (List Outc) :=
 fun l_1 =>
 (qg (σ:=(List Outc) × Int) (ρ:=List Outc) (fun (out_2,x_3) =>
  br (decide (x_3 < (l_1.length:Int)))
   ((idx l_1 x_3).bind fun x_4 =>
   (yY x_4).bind fun x_5 =>
   br x_5
    ((app 56 out_2 ([x_4]:List Outc)).bind fun x_6 =>
    (zD .i64 x_3 1).bind fun x_7 =>
    some (.next (x_6,x_7)))
    ((zD .i64 x_3 1).bind fun x_8 =>
    some (.next (out_2,x_8))))
   (some (.done out_2))) (([]:List Outc),0)).bind fun out_9 =>
 some out_9
def zI.ann:Ann:=(.two .no (.two .no (.two (.two .no (.loop [5,7,10,11,12,13,14,15,16,17,18,19,20,21] [] [.slot 5 .l_Outc (some (5,53)),.slot 10 .i64 none] [(.exit 0,[.slot 5 .l_Outc (some (5,53))])] .no)) .no)))
set_option maxRecDepth 100000 in
theorem zI.fn:FnT Tryz.prog 53 [.d .l_Outc,.f 54 []] [.l_Outc] zI :=
 FnT.of (X:=ctx 0 [yY.spec]) Tryz.mixed zI.ann Tryz.func53 rfl (by kernel_rfl) (zvK rfl) (fun x=>by kernel_rfl)
noncomputable def zI.spec:zb Tryz.prog:=zb.t 53 [.d .l_Outc,.f 54 []] [.l_Outc] zI (by kernel_rfl) zI.fn
set_option maxRecDepth 100000 in
theorem zI.fo:zhy Tryz.prog 53 [.d .l_Outc,.f 54 []] .Outc 53 zI :=
 zhy.of (X:=ctx 0 [yY.spec]) Tryz.mixed zI.ann Tryz.func53 rfl (by kernel_rfl) (zvK rfl) (fun x=>by kernel_rfl)
noncomputable def zI.ow:zbg Tryz.prog:=zbg.t 53 [.d .l_Outc,.f 54 []] .Outc 53 zI (by kernel_rfl) zI.fo
noncomputable def qf:((List Outc) × ID)->Option (Int × Int) :=
 fun (l_1,id_2) =>
 (Ye (l_1,id_2)).bind fun (x_3,x_4) =>
 br (x_4 != 0)
  (some (0,x_4))
  ((zI x_3).bind fun x_5 =>
  br ((x_5.length:Int) != 2)
   (some (0,8))
   ((idx x_5 0).bind fun x_6 =>
   br (x_6.Kind != 1)
    (some (0,8))
    ((idx x_5 1).bind fun x_7 =>
    br (x_7.Kind != 8)
     (some (0,8))
     ((idx x_5 1).bind fun x_8 =>
     (idx x_5 0).bind fun x_9 =>
     (Z9 .i64 x_8.Tick x_9.Tick).bind fun x_10 =>
     some (x_10,0)))))
def qf.ann:Ann:=.no
set_option maxRecDepth 100000 in
theorem qf.fn:FnT Tryz.prog 20 [.d .l_Outc,.d .ID] [.i64,.i64] qf :=
 FnT.of (X:=zts 0 [Ye.spec,zI.spec] [] [zI.ow]) Tryz.mixed qf.ann Tryz.func20 rfl (by kernel_rfl) (zvK rfl) (fun x=>by kernel_rfl)
noncomputable def qf.spec:zb Tryz.prog:=zb.t 20 [.d .l_Outc,.d .ID] [.i64,.i64] qf (by kernel_rfl) qf.fn
noncomputable def zK:((List Outc) × (List Outc))->Option Bool :=
 fun (a_1,b_2) =>
 br ((a_1.length:Int) != (b_2.length:Int))
  (some false)
  ((qg (σ:=Int) (ρ:=(Bool) ⊕ (Unit)) (fun i_3 =>
   br (decide (i_3 < (a_1.length:Int)))
    ((idx a_1 i_3).bind fun x_4 =>
    (idx b_2 i_3).bind fun x_5 =>
    br (!((x_4.Tick == x_5.Tick) && ((x_4.Node == x_5.Node) && ((x_4.Kind == x_5.Kind) && ((x_4.ID.Node == x_5.ID.Node) && ((x_4.ID.Seq == x_5.ID.Seq) && ((x_4.ID.Off == x_5.ID.Off) && (x_4.Other == x_5.Other))))))))
     (some (.done (.inl false)))
     ((zD .i64 i_3 1).bind fun x_6 =>
     some (.next x_6)))
    (some (.done (.inr ())))) 0).bind fun x_8 =>
  Sum.elim
   (fun x_7 =>
   some x_7)
   (fun _ =>
   some true) x_8)
def zK.ann:Ann:=(.two .no (.two .no (.two (.two .no (.loop [4,5,11,12,13,14,15,16,17,18,19,20,21,22,23,24,25] [] [.slot 5 .i64 none] [(.ret,[.slot 4 .bool none]),(.exit 0,[])] .no)) .no)))
set_option maxRecDepth 100000 in
theorem zK.fn:FnT Tryz.prog 12 [.d .l_Outc,.d .l_Outc] [.bool] zK :=
 FnT.of (X:=ctx 0 []) Tryz.mixed zK.ann Tryz.func12 rfl (by kernel_rfl) (zvK rfl) (fun x=>by kernel_rfl)
noncomputable def zK.spec:zb Tryz.prog:=zb.t 12 [.d .l_Outc,.d .l_Outc] [.bool] zK (by kernel_rfl) zK.fn
noncomputable def zw:Unit->Option Bool :=
 fun _ =>
 (yN ([53,32,110,49,32,97,99,99,101,112,116,101,100,32,105,100,61,49,46,55,46,48,10,56,32,110,50,32,116,111,111,107,32,105,100,61,49,46,55,46,48,32,97,116,61,49,10,56,32,110,49,32,104,97,110,100,101,100,32,105,100,61,49,46,55,46,48,32,97,116,61,50,10,57,32,110,50,32,100,101,108,105,118,101,114,101,100,32,105,100,61,49,46,55,46,48,10]:List UInt8)).bind fun (x_1,x_2) =>
 (zh ()).bind fun x_3 =>
 (qo x_3).bind fun (x_4,x_5) =>
 (zh ()).bind fun x_6 =>
 (qf (x_6,(⟨1,7,0⟩:ID))).bind fun (x_7,x_8) =>
 br ((x_2.Err == 0) && (x_2.At == 0))
  ((zh ()).bind fun x_9 =>
  (zK (x_1,x_9)).bind fun x_10 =>
  br x_10
   (br (x_5 == 0)
    (br (x_4 == ([53,32,110,49,32,97,99,99,101,112,116,101,100,32,105,100,61,49,46,55,46,48,10,56,32,110,50,32,116,111,111,107,32,105,100,61,49,46,55,46,48,32,97,116,61,49,10,56,32,110,49,32,104,97,110,100,101,100,32,105,100,61,49,46,55,46,48,32,97,116,61,50,10,57,32,110,50,32,100,101,108,105,118,101,114,101,100,32,105,100,61,49,46,55,46,48,10]:List UInt8))
     (br (x_8 == 0)
      (some (x_7 == 4))
      (some false))
     (some false))
    (some false))
   (some false))
  (some false)
def zw.ann:Ann:=.no
set_option maxRecDepth 100000 in
theorem zw.fn:FnT Tryz.prog 6 [] [.bool] zw :=
 FnT.of (X:=zts 0 [yN.spec,zh.spec,qo.spec,qf.spec,zK.spec] [] [zh.ow]) Tryz.mixed zw.ann Tryz.func6 rfl (by kernel_rfl) (zvK rfl) (fun x=>by kernel_rfl)
noncomputable def zw.spec:zb Tryz.prog:=zb.t 6 [] [.bool] zw (by kernel_rfl) zw.fn
noncomputable def zp:List Outc->Option (List Outc) :=
 fun l_1 =>
 (app 56 ([]:List Outc) l_1).bind fun x_2 =>
 some x_2
def zp.ann:Ann:=.no
set_option maxRecDepth 100000 in
theorem zp.fn:FnT Tryz.prog 8 [.d .l_Outc] [.l_Outc] zp :=
 FnT.of (X:=ctx 0 []) Tryz.mixed zp.ann Tryz.func8 rfl (by kernel_rfl) (zvK rfl) (fun x=>by kernel_rfl)
noncomputable def zp.spec:zb Tryz.prog:=zb.t 8 [.d .l_Outc] [.l_Outc] zp (by kernel_rfl) zp.fn
set_option maxRecDepth 100000 in
theorem zp.fo:zhy Tryz.prog 8 [.d .l_Outc] .Outc 53 zp :=
 zhy.of (X:=ctx 0 []) Tryz.mixed zp.ann Tryz.func8 rfl (by kernel_rfl) (zvK rfl) (fun x=>by kernel_rfl)
noncomputable def zp.ow:zbg Tryz.prog:=zbg.t 8 [.d .l_Outc] .Outc 53 zp (by kernel_rfl) zp.fo
noncomputable def zQ:((List Outc) × (List UInt8))->Option Bool :=
 fun (l_1,text_2) =>
 (yh l_1).bind fun x_3 =>
 br (!x_3)
  ((zw ()).bind fun x_4 =>
  some x_4)
  (br (decide (3000 < (text_2.length:Int)))
   (br (decide ((text_2.length:Int) <= 20000))
    ((zw ()).bind fun x_5 =>
    some x_5)
    (br (decide (20100 < (text_2.length:Int)))
     ((zw ()).bind fun x_6 =>
     some x_6)
     ((zp l_1).bind fun x_7 =>
     (qo x_7).bind fun (x_8,x_9) =>
     (z8 l_1).bind fun (x_10,x_11) =>
     (yN text_2).bind fun (x_12,x_13) =>
     (zL text_2).bind fun (x_14,x_15) =>
     br (x_8 == x_10)
      (br (x_9 == x_11)
       ((zK (x_12,x_14)).bind fun x_16 =>
       br x_16
        (br ((x_13.Err == x_15.Err) && (x_13.At == x_15.At))
         ((zw ()).bind fun x_17 =>
         some x_17)
         (some false))
        (some false))
       (some false))
      (some false))))
   (br (decide (20100 < (text_2.length:Int)))
    ((zw ()).bind fun x_18 =>
    some x_18)
    ((zp l_1).bind fun x_19 =>
    (qo x_19).bind fun (x_20,x_21) =>
    (z8 l_1).bind fun (x_22,x_23) =>
    (yN text_2).bind fun (x_24,x_25) =>
    (zL text_2).bind fun (x_26,x_27) =>
    br (x_20 == x_22)
     (br (x_21 == x_23)
      ((zK (x_24,x_26)).bind fun x_28 =>
      br x_28
       (br ((x_25.Err == x_27.Err) && (x_25.At == x_27.At))
        ((zw ()).bind fun x_29 =>
        some x_29)
        (some false))
       (some false))
      (some false))
     (some false))))
def zQ.ann:Ann:=.no
set_option maxRecDepth 100000 in
theorem zQ.fn:FnT Tryz.prog 3 [.d .l_Outc,.d .str] [.bool] zQ :=
 FnT.of (X:=zts 0 [yh.spec,zw.spec,zp.spec,qo.spec,z8.spec,yN.spec,zL.spec,zK.spec] [] [zp.ow]) Tryz.mixed zQ.ann Tryz.func3 rfl (by kernel_rfl) (zvK rfl) (fun x=>by kernel_rfl)
noncomputable def zQ.spec:zb Tryz.prog:=zb.t 3 [.d .l_Outc,.d .str] [.bool] zQ (by kernel_rfl) zQ.fn
end Go.Proofs.YtjcbpfhlgebgdaaGreatDoor
