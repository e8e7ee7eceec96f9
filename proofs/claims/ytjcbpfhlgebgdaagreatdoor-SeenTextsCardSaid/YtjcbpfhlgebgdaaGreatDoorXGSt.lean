import Derived.Test.YtjcbpfhlgebgdaaGreatDoorXSe
import Derived.Test.YtjcbpfhlgebgdaaGreatDoorInC
import Derived.Test.YtjcbpfhlgebgdaaGreatDoorP22v
import Derived.Test.YtjcbpfhlgebgdaaGreatDoorX9
import Derived.Test.YtjcbpfhlgebgdaaGreatDoorChecked
import Derived.KernelRfl
open Nat renaming le_of_ble_eq_true -> zue
set_option linter.unusedSimpArgs false
set_option linter.unusedVariables false
namespace Go.Proofs.YtjcbpfhlgebgdaaGreatDoor
open Go.X Go.Eng
noncomputable def zV:(Int × Int)->Option Mrk :=
 fun (seq_1,until_2) =>
 some (⟨(⟨2,seq_1,0⟩:ID),until_2⟩:Mrk)
def zV.ann:Ann:=.no
set_option maxRecDepth 100000 in
theorem zV.fn:FnT Tryz.prog 38 [.d .u64,.d .i64] [.Mrk] zV :=
 FnT.of (X:=ctx 0 []) Tryz.mixed zV.ann Tryz.func38 rfl (by kernel_rfl) (zue rfl) (fun x=>by kernel_rfl)
noncomputable def zV.spec:ze Tryz.prog:=ze.t 38 [.d .u64,.d .i64] [.Mrk] zV (by kernel_rfl) zV.fn
noncomputable def yA:(Mrk × ID)->Option Int :=
 fun (m_1,id_2) =>
 (zB (m_1.ID,id_2)).bind fun x_3 =>
 some x_3
def yA.ann:Ann:=.no
set_option maxRecDepth 100000 in
theorem yA.fn:FnT Tryz.prog 107 [.e,.d .Mrk,.d .ID] [.i64] yA :=
 FnT.of (X:=ctx 0 [zB.spec]) Tryz.mixed yA.ann Tryz.func107 rfl (by kernel_rfl) (zue rfl) (fun x=>by kernel_rfl)
noncomputable def yA.spec:ze Tryz.prog:=ze.t 107 [.e,.d .Mrk,.d .ID] [.i64] yA (by kernel_rfl) yA.fn
noncomputable def zo:((List Mrk) × ID)->Option (Int × Bool) :=
 fun (x_1,target_2) =>
 (qO (σ:=Int × Int) (ρ:=Int) (fun (i_3,j_4) =>
  br (decide (i_3 < j_4))
   ((zO .i64 i_3 j_4).bind fun x_5 =>
   (zrF .u64 (Go.IntKind.wrap .u64 x_5) 1).bind fun x_6 =>
   (idx x_1 (Go.IntKind.wrap .i64 x_6)).bind fun x_7 =>
   (yA (x_7,target_2)).bind fun x_8 =>
   br (decide (x_8 < 0))
    ((zO .i64 (Go.IntKind.wrap .i64 x_6) 1).bind fun x_9 =>
    some (.next (x_9,j_4)))
    (some (.next (i_3,Go.IntKind.wrap .i64 x_6))))
   (some (.done i_3))) (0,(x_1.length:Int))).bind fun i_10 =>
 br (decide (i_10 < (x_1.length:Int)))
  ((idx x_1 i_10).bind fun x_11 =>
  (yA (x_11,target_2)).bind fun x_12 =>
  some (i_10,x_12 == 0))
  (some (i_10,false))
def zo.ann:Ann:=(.two .no (.two .no (.two .no (.two (.loop [9,10,11,15,16,17,18,19,20,21,22,23,24,25,26,27,28,29,30,31,32,33,34] [] [.slot 9 .i64 none,.slot 10 .i64 none] [(.exit 0,[.slot 9 .i64 none])] .no) .no))))
set_option maxRecDepth 100000 in
theorem zo.fn:FnT Tryz.prog 108 [.d .l_Mrk,.d .ID,.m 107] [.i64,.bool] zo :=
 FnT.of (X:=ctx 0 [yA.spec]) Tryz.mixed zo.ann Tryz.func108 rfl (by kernel_rfl) (zue rfl) (fun x=>by kernel_rfl)
noncomputable def zo.spec:ze Tryz.prog:=ze.t 108 [.d .l_Mrk,.d .ID,.m 107] [.i64,.bool] zo (by kernel_rfl) zo.fn
noncomputable def qJ:((List Mrk) × ID)->Option (Int × Bool) :=
 fun (l_1,id_2) =>
 (zo (l_1,id_2)).bind fun (x_3,x_4) =>
 some (x_3,x_4)
def qJ.ann:Ann:=.no
set_option maxRecDepth 100000 in
theorem qJ.fn:FnT Tryz.prog 77 [.d .l_Mrk,.d .ID] [.i64,.bool] qJ :=
 FnT.of (X:=ctx 0 [zo.spec]) Tryz.mixed qJ.ann Tryz.func77 rfl (by kernel_rfl) (zue rfl) (fun x=>by kernel_rfl)
noncomputable def qJ.spec:ze Tryz.prog:=ze.t 77 [.d .l_Mrk,.d .ID] [.i64,.bool] qJ (by kernel_rfl) qJ.fn
noncomputable def zK:List Mrk->Option (List Mrk) :=
 fun s_1 =>
 zoh s_1
  (some ([]:List Mrk))
  ((app 32 ([]:List Mrk) s_1).bind fun x_2 =>
  some x_2)
def zK.ann:Ann:=.no
set_option maxRecDepth 100000 in
theorem zK.fn:FnT Tryz.prog 79 [.d .l_Mrk] [.l_Mrk] zK :=
 FnT.of (X:=ctx 0 []) Tryz.mixed zK.ann Tryz.func79 rfl (by kernel_rfl) (zue rfl) (fun x=>by kernel_rfl)
noncomputable def zK.spec:ze Tryz.prog:=ze.t 79 [.d .l_Mrk] [.l_Mrk] zK (by kernel_rfl) zK.fn
set_option maxRecDepth 100000 in
theorem zK.fo:zoB Tryz.prog 79 [.d .l_Mrk] .Mrk 81 zK :=
 zoB.of (X:=ctx 0 []) Tryz.mixed zK.ann Tryz.func79 rfl (by kernel_rfl) (zue rfl) (fun x=>by kernel_rfl)
noncomputable def zK.ow:zcL Tryz.prog:=zcL.t 79 [.d .l_Mrk] .Mrk 81 zK (by kernel_rfl) zK.fo
noncomputable def ZX:((List Mrk) × ID × Int)->Option ((List Mrk) × Int) :=
 fun (l_1,id_2,until_3) =>
 (zz l_1).bind fun (x_4,x_5) =>
 br (x_4 != 0)
  (some (([]:List Mrk),x_4))
  ((yS (⟨id_2,until_3⟩:Mrk)).bind fun x_6 =>
  br (x_6 != 0)
   (some (([]:List Mrk),x_6))
   ((qJ (l_1,id_2)).bind fun (x_7,x_8) =>
   br x_8
    (some (([]:List Mrk),9))
    (zje
     ((zK l_1).bind fun x_9 =>
    (zaS x_9 x_7 ([(⟨id_2,until_3⟩:Mrk)]:List Mrk)).bind fun x_10 =>
    some (x_10,0))
     (zje
     ((zK l_1).bind fun x_11 =>
    (zaS x_11 x_7 ([(⟨id_2,until_3⟩:Mrk)]:List Mrk)).bind fun x_12 =>
    some (x_12,0))
     ((zK l_1).bind fun x_13 =>
    (zaS x_13 x_7 ([(⟨id_2,until_3⟩:Mrk)]:List Mrk)).bind fun x_14 =>
    some (x_14,0))))))
def ZX.ann:Ann:=(.two .no (.two .no (.two .no (.two .no (.two .no (.two .no (.two .full .no)))))))
set_option maxRecDepth 100000 in
theorem ZX.fn:FnT Tryz.prog 39 [.d .l_Mrk,.d .ID,.d .i64] [.l_Mrk,.i64] ZX :=
 FnT.of (X:=ztH 0 [zz.spec,yS.spec,qJ.spec,zK.spec] [] [zK.ow] [insertM.mu]) Tryz.mixed ZX.ann Tryz.func39 rfl (by kernel_rfl) (zue rfl) (fun x=>by kernel_rfl)
noncomputable def ZX.spec:ze Tryz.prog:=ze.t 39 [.d .l_Mrk,.d .ID,.d .i64] [.l_Mrk,.i64] ZX (by kernel_rfl) ZX.fn
noncomputable def ZY:((List Mrk) × ID)->Option (Bool × Int) :=
 fun (l_1,id_2) =>
 (zz l_1).bind fun (x_3,x_4) =>
 br (x_3 != 0)
  (some (false,x_3))
  ((qJ (l_1,id_2)).bind fun (x_5,x_6) =>
  some (x_6,0))
def ZY.ann:Ann:=.no
set_option maxRecDepth 100000 in
theorem ZY.fn:FnT Tryz.prog 40 [.d .l_Mrk,.d .ID] [.bool,.i64] ZY :=
 FnT.of (X:=ctx 0 [zz.spec,qJ.spec]) Tryz.mixed ZY.ann Tryz.func40 rfl (by kernel_rfl) (zue rfl) (fun x=>by kernel_rfl)
noncomputable def ZY.spec:ze Tryz.prog:=ze.t 40 [.d .l_Mrk,.d .ID] [.bool,.i64] ZY (by kernel_rfl) ZY.fn
noncomputable def yL:Mrk->Int->Option ((Bool) × (Int)) :=
 fun m_1 x_2 =>
 some (decide (m_1.Until <= x_2),x_2)
def yL.ann:Ann:=.no
set_option maxRecDepth 100000 in
theorem yL.fn:FnB Tryz.prog 81 [.d .Mrk,.l 0 0] [(.i64,3)] [.bool] yL :=
 FnB.of (X:=ctx 0 []) Tryz.mixed yL.ann Tryz.func81 rfl (by kernel_rfl) (zue rfl) (fun x y=>by kernel_rfl)
noncomputable def yL.spec:ze Tryz.prog:=ze.b 81 [.d .Mrk,.l 0 0] [(.i64,3)] [.bool] yL (by kernel_rfl) yL.fn
noncomputable def yw:List Mrk->Int->Option ((Int) × (Int)) :=
 fun s_1 x_2 =>
 (qO (σ:=Int × Int) (ρ:=(Int × Int) ⊕ (Int)) (fun (x_3,x_4) =>
  br (decide (x_3 < (s_1.length:Int)))
   ((idx s_1 x_3).bind fun x_5 =>
   (yL x_5 x_4).bind fun (x_6,x_7) =>
   br x_6
    (some (.done (.inl (x_3,x_7))))
    ((zO .i64 x_3 1).bind fun x_8 =>
    some (.next (x_8,x_7))))
   (some (.done (.inr x_4)))) (0,x_2)).bind fun x_12 =>
 Sum.elim
  (fun (x_9,x_10) =>
  some (x_9,x_10))
  (fun x_11 =>
  some ((-1),x_11)) x_12
def yw.ann:Ann:=(.two .no (.two (.two .no (.loop [4,5,8,9,10,11,12,13,14,15,16,17,18] [0] [.slot 8 .i64 none,.box 0 .i64] [(.ret,[.slot 4 .i64 none,.box 0 .i64]),(.exit 0,[.box 0 .i64])] .no)) .no))
set_option maxRecDepth 100000 in
theorem yw.fn:FnB Tryz.prog 111 [.d .l_Mrk,.f 81 [0]] [(.i64,3)] [.i64] yw :=
 FnB.of (X:=ctx 0 [yL.spec]) Tryz.mixed yw.ann Tryz.func111 rfl (by kernel_rfl) (zue rfl) (fun x y=>by kernel_rfl)
noncomputable def yw.spec:ze Tryz.prog:=ze.b 111 [.d .l_Mrk,.f 81 [0]] [(.i64,3)] [.i64] yw (by kernel_rfl) yw.fn
noncomputable def z7:List Mrk->Int->Option ((List Mrk) × (Int)) :=
 fun s_1 x_2 =>
 (yw s_1 x_2).bind fun (x_3,x_4) =>
 br (x_3 == (-1))
  (some (s_1,x_4))
  ((zO .i64 x_3 1).bind fun x_5 =>
  (qO (σ:=(List Mrk) × Int × Int × Int) (ρ:=(List Mrk) × Int × Int) (fun (s_6,i_7,j_8,x_9) =>
   br (decide (j_8 < (s_6.length:Int)))
    ((idx s_6 j_8).bind fun x_10 =>
    (yL x_10 x_9).bind fun (x_11,x_12) =>
    br (!x_11)
     (br (inB i_7 s_6.length)
      ((idx s_6 i_7).bind fun x_13 =>
      (zO .i64 i_7 1).bind fun x_14 =>
      (zO .i64 j_8 1).bind fun x_15 =>
      some (.next (zei s_6 i_7 x_10,x_14,x_15,x_12)))
      (none))
     ((zO .i64 j_8 1).bind fun x_16 =>
     some (.next (s_6,i_7,x_16,x_12))))
    (some (.done (s_6,i_7,x_9)))) (s_1,x_3,x_5,x_4)).bind fun (s_17,i_18,x_19) =>
  (zog s_17 i_18 (⟨(⟨0,0,0⟩:ID),0⟩:Mrk)).bind fun x_20 =>
  (slc x_20 0 i_18).bind fun x_21 =>
  some (x_21,x_19))
def z7.ann:Ann:=(.two .no (.two .no (.two .no (.two (.two .no (.loop [0,4,5,6,7,8,16,17,18,19,20,21,22,23,24,25,26,27,28,29,30,31,32,33,34,35] [0] [.slot 0 .l_Mrk (some (0,81)),.slot 5 .i64 none,.slot 6 .i64 none,.box 0 .i64] [(.exit 0,[.slot 0 .l_Mrk (some (0,81)),.slot 5 .i64 none,.box 0 .i64])] .no)) (.two .sch .no)))))
set_option maxRecDepth 100000 in
theorem z7.mt:zqv Tryz.prog 80 [.d .l_Mrk,.f 81 [0]] [(.i64,3)] 0 .Mrk 81 z7 :=
 zqv.of (X:=ctx 2207613190144 [yw.spec,yL.spec]) Tryz.mixed z7.ann Tryz.func80 rfl (by kernel_rfl) (zue rfl) (by decide) (fun x=>zue (by kernel_rfl)) (fun x y=>by kernel_rfl)
noncomputable def z7.mu:zeg Tryz.prog:=zeg.t 80 [.d .l_Mrk,.f 81 [0]] [(.i64,3)] 0 .Mrk 81 z7 (by kernel_rfl) z7.mt
noncomputable def qz:((List Mrk) × Int)->Option ((List Mrk) × Int × Int) :=
 fun (l_1,now_2) =>
 (zz l_1).bind fun (x_3,x_4) =>
 br (x_3 != 0)
  (some (([]:List Mrk),0,x_3))
  ((zK l_1).bind fun x_5 =>
  (z7 x_5 now_2).bind fun (x_6,x_7) =>
  (Yb .i64 (l_1.length:Int) (x_6.length:Int)).bind fun x_8 =>
  some (x_6,x_8,0))
def qz.ann:Ann:=.no
set_option maxRecDepth 100000 in
theorem qz.fn:FnT Tryz.prog 41 [.d .l_Mrk,.d .i64] [.l_Mrk,.i64,.i64] qz :=
 FnT.of (X:=ztH 0 [zz.spec,zK.spec] [] [zK.ow] [z7.mu]) Tryz.mixed qz.ann Tryz.func41 rfl (by kernel_rfl) (zue rfl) (fun x=>by kernel_rfl)
noncomputable def qz.spec:ze Tryz.prog:=ze.t 41 [.d .l_Mrk,.d .i64] [.l_Mrk,.i64,.i64] qz (by kernel_rfl) qz.fn
noncomputable def zd:((List Mrk) × (List Mrk))->Option Bool :=
 fun (a_1,b_2) =>
 br ((a_1.length:Int) != (b_2.length:Int))
  (some false)
  ((qO (σ:=Int) (ρ:=(Bool) ⊕ (Unit)) (fun i_3 =>
   br (decide (i_3 < (a_1.length:Int)))
    ((idx a_1 i_3).bind fun x_4 =>
    (idx b_2 i_3).bind fun x_5 =>
    br (!((x_4.ID.Node == x_5.ID.Node) && ((x_4.ID.Seq == x_5.ID.Seq) && ((x_4.ID.Off == x_5.ID.Off) && (x_4.Until == x_5.Until)))))
     (some (.done (.inl false)))
     ((zO .i64 i_3 1).bind fun x_6 =>
     some (.next x_6)))
    (some (.done (.inr ())))) 0).bind fun x_8 =>
  Sum.elim
   (fun x_7 =>
   some x_7)
   (fun _ =>
   some true) x_8)
def zd.ann:Ann:=(.two .no (.two .no (.two (.two .no (.loop [4,5,11,12,13,14,15,16,17,18,19,20,21,22,23,24,25] [] [.slot 5 .i64 none] [(.ret,[.slot 4 .bool none]),(.exit 0,[])] .no)) .no)))
set_option maxRecDepth 100000 in
theorem zd.fn:FnT Tryz.prog 18 [.d .l_Mrk,.d .l_Mrk] [.bool] zd :=
 FnT.of (X:=ctx 0 []) Tryz.mixed zd.ann Tryz.func18 rfl (by kernel_rfl) (zue rfl) (fun x=>by kernel_rfl)
noncomputable def zd.spec:ze Tryz.prog:=ze.t 18 [.d .l_Mrk,.d .l_Mrk] [.bool] zd (by kernel_rfl) zd.fn
noncomputable def zi:Unit->Option Bool :=
 fun _ =>
 (zV (5,90)).bind fun x_1 =>
 (zV (3,50)).bind fun x_2 =>
 (zV (5,90)).bind fun x_3 =>
 (ZX (([x_1]:List Mrk),(⟨2,3,0⟩:ID),50)).bind fun (x_4,x_5) =>
 (ZY (([x_1]:List Mrk),(⟨2,5,0⟩:ID))).bind fun (x_6,x_7) =>
 (qz (([x_2,x_3]:List Mrk),50)).bind fun (x_8,x_9,x_10) =>
 (y9 ([x_2,x_3]:List Mrk)).bind fun (x_11,x_12) =>
 (zz ([x_2,x_3]:List Mrk)).bind fun (x_13,x_14) =>
 br (x_5 == 0)
  ((zd (x_4,([x_2,x_3]:List Mrk))).bind fun x_15 =>
  br x_15
   (br (x_7 == 0)
    (br x_6
     (br (x_10 == 0)
      (br (x_9 == 1)
       ((zd (x_8,([x_1]:List Mrk))).bind fun x_16 =>
       br x_16
        (br (x_12 == 0)
         (br (x_11 == ([50,46,51,46,48,47,53,48,10,50,46,53,46,48,47,57,48,10]:List UInt8))
          (br (x_13 == 0)
           (some (x_14 == 0))
           (some false))
          (some false))
         (some false))
        (some false))
       (some false))
      (some false))
     (some false))
    (some false))
   (some false))
  (some false)
def zi.ann:Ann:=.no
set_option maxRecDepth 100000 in
theorem zi.fn:FnT Tryz.prog 13 [] [.bool] zi :=
 FnT.of (X:=ctx 0 [zV.spec,ZX.spec,ZY.spec,qz.spec,y9.spec,zz.spec,zd.spec]) Tryz.mixed zi.ann Tryz.func13 rfl (by kernel_rfl) (zue rfl) (fun x=>by kernel_rfl)
noncomputable def zi.spec:ze Tryz.prog:=ze.t 13 [] [.bool] zi (by kernel_rfl) zi.fn
noncomputable def zX:ID->Option Bool :=
 fun id_1 =>
 br (decide (1 <= id_1.Node))
  (br (decide (id_1.Node <= 16))
   (br (decide (id_1.Seq <= 1099511627776))
    (br (decide (0 <= id_1.Off))
     (some (decide (id_1.Off < 20000)))
     (some false))
    (some false))
   (some false))
  (some false)
def zX.ann:Ann:=.no
set_option maxRecDepth 100000 in
theorem zX.fn:FnT Tryz.prog 84 [.d .ID] [.bool] zX :=
 FnT.of (X:=ctx 0 []) Tryz.mixed zX.ann Tryz.func84 rfl (by kernel_rfl) (zue rfl) (fun x=>by kernel_rfl)
noncomputable def zX.spec:ze Tryz.prog:=ze.t 84 [.d .ID] [.bool] zX (by kernel_rfl) zX.fn
noncomputable def zY:Int->Option Bool :=
 fun until_1 =>
 br (decide (0 <= until_1))
  (some (decide (until_1 <= 1099512676352)))
  (some false)
def zY.ann:Ann:=.no
set_option maxRecDepth 100000 in
theorem zY.fn:FnT Tryz.prog 85 [.d .i64] [.bool] zY :=
 FnT.of (X:=ctx 0 []) Tryz.mixed zY.ann Tryz.func85 rfl (by kernel_rfl) (zue rfl) (fun x=>by kernel_rfl)
noncomputable def zY.spec:ze Tryz.prog:=ze.t 85 [.d .i64] [.bool] zY (by kernel_rfl) zY.fn
noncomputable def zP:(Int × Int)->Option Int :=
 fun (a_1,b_2) =>
 br (decide (a_1 < b_2))
  (some (-1))
  (br (decide (b_2 < a_1))
   (some 1)
   (some 0))
def zP.ann:Ann:=.no
set_option maxRecDepth 100000 in
theorem zP.fn:FnT Tryz.prog 114 [.d .i64,.d .i64] [.i64] zP :=
 FnT.of (X:=ctx 0 []) Tryz.mixed zP.ann Tryz.func114 rfl (by kernel_rfl) (zue rfl) (fun x=>by kernel_rfl)
noncomputable def zP.spec:ze Tryz.prog:=ze.t 114 [.d .i64,.d .i64] [.i64] zP (by kernel_rfl) zP.fn
noncomputable def zL:(ID × ID)->Option Int :=
 fun (a_1,b_2) =>
 br (a_1.Node != b_2.Node)
  ((zP (a_1.Node,b_2.Node)).bind fun x_3 =>
  some x_3)
  (br (decide (a_1.Seq < b_2.Seq))
   (some (-1))
   (br (decide (b_2.Seq < a_1.Seq))
    (some 1)
    ((zP (a_1.Off,b_2.Off)).bind fun x_4 =>
    some x_4)))
def zL.ann:Ann:=.no
set_option maxRecDepth 100000 in
theorem zL.fn:FnT Tryz.prog 86 [.d .ID,.d .ID] [.i64] zL :=
 FnT.of (X:=ctx 0 [zP.spec]) Tryz.mixed zL.ann Tryz.func86 rfl (by kernel_rfl) (zue rfl) (fun x=>by kernel_rfl)
noncomputable def zL.spec:ze Tryz.prog:=ze.t 86 [.d .ID,.d .ID] [.i64] zL (by kernel_rfl) zL.fn
noncomputable def zG:List Mrk->Option (Int × Int) :=
 fun l_1 =>
 (qO (σ:=Int) (ρ:=(Int × Int) ⊕ (Unit)) (fun i_2 =>
  br (decide (i_2 < (l_1.length:Int)))
   ((idx l_1 i_2).bind fun x_3 =>
   (zX x_3.ID).bind fun x_4 =>
   br (!x_4)
    (some (.done (.inl (2,i_2))))
    ((idx l_1 i_2).bind fun x_5 =>
    (zY x_5.Until).bind fun x_6 =>
    br (!x_6)
     (some (.done (.inl (2,i_2))))
     (br (decide (0 < i_2))
      ((Yb .i64 i_2 1).bind fun x_7 =>
      (idx l_1 x_7).bind fun x_8 =>
      (idx l_1 i_2).bind fun x_9 =>
      (zL (x_8.ID,x_9.ID)).bind fun x_10 =>
      br (decide (0 <= x_10))
             (some (.done (.inl (19,i_2))))
             ((zO .i64 i_2 1).bind fun x_11 =>
             some (.next x_11)))
      ((zO .i64 i_2 1).bind fun x_12 =>
      some (.next x_12)))))
   (some (.done (.inr ())))) 0).bind fun x_15 =>
 Sum.elim
  (fun (x_13,x_14) =>
  some (x_13,x_14))
  (fun _ =>
  some (0,0)) x_15
def zG.ann:Ann:=(.two .no (.two (.two .no (.loop [2,3,4,5,6,7,8,9,10,11,12,13,14,15,16,17,18,19,20,21,22,23,24,25,26,27,28,29,30,31,32,33,34,35,36,37,38,39,40,41,42,43,44,45,46,47] [] [.slot 4 .i64 none] [(.ret,[.slot 2 .i64 none,.slot 3 .i64 none]),(.exit 0,[])] .no)) .no))
set_option maxRecDepth 100000 in
theorem zG.fn:FnT Tryz.prog 45 [.d .l_Mrk] [.i64,.i64] zG :=
 FnT.of (X:=ctx 0 [zX.spec,zY.spec,zL.spec]) Tryz.mixed zG.ann Tryz.func45 rfl (by kernel_rfl) (zue rfl) (fun x=>by kernel_rfl)
noncomputable def zG.spec:ze Tryz.prog:=ze.t 45 [.d .l_Mrk] [.i64,.i64] zG (by kernel_rfl) zG.fn
noncomputable def zw:Int->Option (List UInt8) :=
 fun n_1 =>
 (qO (σ:=Int × (List UInt8)) (ρ:=List UInt8) (fun (n_2,out_3) =>
  br (decide (0 < n_2))
   ((zl5 n_2 10).bind fun x_4 =>
   (zO .u64 48 x_4).bind fun x_5 =>
   (zab ([Go.IntKind.wrap .u8 x_5]:List Int)).bind fun x_6 =>
   (zaF x_6 out_3).bind fun x_7 =>
   (zkO .u64 n_2 10).bind fun x_8 =>
   some (.next (x_8,x_7)))
   (br (out_3 == ([]:List UInt8))
    ((zl5 n_2 10).bind fun x_9 =>
    (zO .u64 48 x_9).bind fun x_10 =>
    (zab ([Go.IntKind.wrap .u8 x_10]:List Int)).bind fun x_11 =>
    (zaF x_11 out_3).bind fun x_12 =>
    (zkO .u64 n_2 10).bind fun x_13 =>
    some (.next (x_13,x_12)))
    (some (.done out_3)))) (n_1,([]:List UInt8))).bind fun out_14 =>
 some out_14
def zw.ann:Ann:=(.two .no (.two .no (.two (.loop [0,3,4,5,6,7,8,9,10,11,12,13,14,15,16,17,18,19] [] [.slot 0 .u64 none,.slot 3 .str none] [(.exit 0,[.slot 3 .str none])] .no) .no)))
set_option maxRecDepth 100000 in
theorem zw.fn:FnT Tryz.prog 46 [.d .u64] [.str] zw :=
 FnT.of (X:=ctx 0 []) Tryz.mixed zw.ann Tryz.func46 rfl (by kernel_rfl) (zue rfl) (fun x=>by kernel_rfl)
noncomputable def zw.spec:ze Tryz.prog:=ze.t 46 [.d .u64] [.str] zw (by kernel_rfl) zw.fn
noncomputable def zF:List Mrk->Option ((List UInt8) × Int) :=
 fun l_1 =>
 (zG l_1).bind fun (x_2,x_3) =>
 br (x_2 != 0)
  (some (([]:List UInt8),x_2))
  ((qO (σ:=(List UInt8) × Int) (ρ:=((List UInt8) × Int) ⊕ (List UInt8)) (fun (out_4,i_5) =>
   br (decide (i_5 < (l_1.length:Int)))
    ((idx l_1 i_5).bind fun x_6 =>
    (zw (Go.IntKind.wrap .u64 x_6.ID.Node)).bind fun x_7 =>
    (zaF out_4 x_7).bind fun x_8 =>
    (zaF x_8 ([46]:List UInt8)).bind fun x_9 =>
    (zw x_6.ID.Seq).bind fun x_10 =>
    (zaF x_9 x_10).bind fun x_11 =>
    (zaF x_11 ([46]:List UInt8)).bind fun x_12 =>
    (zw (Go.IntKind.wrap .u64 x_6.ID.Off)).bind fun x_13 =>
    (zaF x_12 x_13).bind fun x_14 =>
    (zaF x_14 ([47]:List UInt8)).bind fun x_15 =>
    (zw (Go.IntKind.wrap .u64 x_6.Until)).bind fun x_16 =>
    (zaF x_15 x_16).bind fun x_17 =>
    (zaF x_17 ([10]:List UInt8)).bind fun x_18 =>
    br (decide (20000 < (x_18.length:Int)))
     (some (.done (.inl (([]:List UInt8),4))))
     ((zO .i64 i_5 1).bind fun x_19 =>
     some (.next (x_18,x_19))))
    (some (.done (.inr out_4)))) (([]:List UInt8),0)).bind fun x_23 =>
  Sum.elim
   (fun (x_20,x_21) =>
   some (x_20,x_21))
   (fun out_22 =>
   some (out_22,0)) x_23)
def zF.ann:Ann:=(.two .no (.two .no (.two .no (.two .no (.two (.two .no (.loop [2,3,6,7,8,17,18,19,20,21,22,23,24,25,26,27,28,29,30,31,32,33,34,35,36,37,38,39,40,41,42,43,44,45,46,47,48,49,50,51,52,53,54,55,56] [] [.slot 6 .str none,.slot 7 .i64 none] [(.ret,[.slot 2 .str none,.slot 3 .i64 none]),(.exit 0,[.slot 6 .str none])] .no)) .no)))))
set_option maxRecDepth 100000 in
theorem zF.fn:FnT Tryz.prog 15 [.d .l_Mrk] [.str,.i64] zF :=
 FnT.of (X:=ctx 0 [zG.spec,zw.spec]) Tryz.mixed zF.ann Tryz.func15 rfl (by kernel_rfl) (zue rfl) (fun x=>by kernel_rfl)
noncomputable def zF.spec:ze Tryz.prog:=ze.t 15 [.d .l_Mrk] [.str,.i64] zF (by kernel_rfl) zF.fn
noncomputable def zS:List UInt8->Option (Int × (List UInt8) × Bool) :=
 fun s_1 =>
 (qO (σ:=Int) (ρ:=Int) (fun i_2 =>
  br (decide (i_2 < (s_1.length:Int)))
   ((yi s_1 i_2).bind fun x_3 =>
   br (decide (48 <= x_3))
    ((yi s_1 i_2).bind fun x_4 =>
    br (decide (x_4 <= 57))
     ((zO .i64 i_2 1).bind fun x_5 =>
     some (.next x_5))
     (some (.done i_2)))
    (some (.done i_2)))
   (some (.done i_2))) 0).bind fun i_6 =>
 (slc s_1 0 i_6).bind fun x_7 =>
 (zI x_7).bind fun (x_8,x_9) =>
 (slc s_1 i_6 (s_1.length:Int)).bind fun x_10 =>
 some (x_8,x_10,x_9)
def zS.ann:Ann:=(.two .no (.two .no (.two (.loop [5,8,9,10,11,12,13,14,15,16,17,18,19,20,21,22,23,24,25] [] [.slot 5 .i64 none] [(.exit 0,[.slot 5 .i64 none])] .no) .no)))
set_option maxRecDepth 100000 in
theorem zS.fn:FnT Tryz.prog 94 [.d .str] [.u64,.str,.bool] zS :=
 FnT.of (X:=ctx 0 [zI.spec]) Tryz.mixed zS.ann Tryz.func94 rfl (by kernel_rfl) (zue rfl) (fun x=>by kernel_rfl)
noncomputable def zS.spec:ze Tryz.prog:=ze.t 94 [.d .str] [.u64,.str,.bool] zS (by kernel_rfl) zS.fn
noncomputable def yf:List UInt8->Option (Mrk × Bool) :=
 fun s_1 =>
 (qO (σ:=(List UInt8) × (List Int) × Int × Mrk) (ρ:=(Bool × Mrk) ⊕ ((List Int) × Mrk)) (fun (s_2,l_3,i_4,x_5) =>
  br (decide (i_4 < 4))
   ((zS s_2).bind fun (x_6,x_7,x_8) =>
   br (!x_8)
    (some (.done (.inl (false,(⟨(⟨0,0,0⟩:ID),0⟩:Mrk)))))
    (br (decide (i_4 < 3))
     (br (x_7 == ([]:List UInt8))
      (some (.done (.inl (false,(⟨(⟨0,0,0⟩:ID),0⟩:Mrk)))))
      ((yi x_7 0).bind fun x_9 =>
      (yi ([46,46,47]:List UInt8) i_4).bind fun x_10 =>
      br (x_9 != x_10)
             (some (.done (.inl (false,(⟨(⟨0,0,0⟩:ID),0⟩:Mrk)))))
             (br (i_4 == 3)
              (br (!(x_7 == ([]:List UInt8)))
               (some (.done (.inl (false,(⟨(⟨0,0,0⟩:ID),0⟩:Mrk)))))
               ((app 8 l_3 ([x_6]:List Int)).bind fun x_11 =>
               br (decide (i_4 < 3))
                ((slc x_7 1 (x_7.length:Int)).bind fun x_12 =>
                (zO .i64 i_4 1).bind fun x_13 =>
                some (.next (x_12,x_11,x_13,x_5)))
                ((zO .i64 i_4 1).bind fun x_14 =>
                some (.next (s_2,x_11,x_14,x_5)))))
              ((app 8 l_3 ([x_6]:List Int)).bind fun x_15 =>
              br (decide (i_4 < 3))
               ((slc x_7 1 (x_7.length:Int)).bind fun x_16 =>
               (zO .i64 i_4 1).bind fun x_17 =>
               some (.next (x_16,x_15,x_17,x_5)))
               ((zO .i64 i_4 1).bind fun x_18 =>
               some (.next (s_2,x_15,x_18,x_5)))))))
     (br (i_4 == 3)
      (br (!(x_7 == ([]:List UInt8)))
             (some (.done (.inl (false,(⟨(⟨0,0,0⟩:ID),0⟩:Mrk)))))
             ((app 8 l_3 ([x_6]:List Int)).bind fun x_19 =>
             br (decide (i_4 < 3))
              ((slc x_7 1 (x_7.length:Int)).bind fun x_20 =>
              (zO .i64 i_4 1).bind fun x_21 =>
              some (.next (x_20,x_19,x_21,x_5)))
              ((zO .i64 i_4 1).bind fun x_22 =>
              some (.next (s_2,x_19,x_22,x_5)))))
      ((app 8 l_3 ([x_6]:List Int)).bind fun x_23 =>
      br (decide (i_4 < 3))
             ((slc x_7 1 (x_7.length:Int)).bind fun x_24 =>
             (zO .i64 i_4 1).bind fun x_25 =>
             some (.next (x_24,x_23,x_25,x_5)))
             ((zO .i64 i_4 1).bind fun x_26 =>
             some (.next (s_2,x_23,x_26,x_5)))))))
   (some (.done (.inr (l_3,x_5))))) (s_1,([]:List Int),0,(⟨(⟨0,0,0⟩:ID),0⟩:Mrk))).bind fun x_35 =>
 Sum.elim
  (fun (x_27,x_28) =>
  some (x_28,x_27))
  (fun (l_29,x_30) =>
  (idx l_29 0).bind fun x_31 =>
  (idx l_29 1).bind fun x_32 =>
  (idx l_29 2).bind fun x_33 =>
  (idx l_29 3).bind fun x_34 =>
  some ((⟨(⟨Go.IntKind.wrap .i64 x_31,x_32,Go.IntKind.wrap .i64 x_33⟩:ID),Go.IntKind.wrap .i64 x_34⟩:Mrk),true)) x_35
def yf.ann:Ann:=(.two .no (.two .no (.two (.two .no (.loop [0,3,4,5,6,7,8,9,10,11,12,13,14,15,16,17,18,19,20,21,22,23,24,25,26,27,28,29,30,31,32,33,34,35,36,37,38,39,40,41,42,43,44,45,46,47,48,49,50,51,52] [0] [.slot 0 .str none,.slot 4 .l_u64 (some (4,44)),.slot 5 .i64 none,.box 0 .Mrk] [(.ret,[.slot 3 .bool none,.box 0 .Mrk]),(.exit 0,[.slot 4 .l_u64 (some (4,44)),.box 0 .Mrk])] .no)) .no)))
set_option maxRecDepth 100000 in
theorem yf.fn:FnT Tryz.prog 51 [.d .str] [.Mrk,.bool] yf :=
 FnT.of (X:=ctx 0 [zS.spec]) Tryz.mixed yf.ann Tryz.func51 rfl (by kernel_rfl) (zue rfl) (fun x=>by kernel_rfl)
noncomputable def yf.spec:ze Tryz.prog:=ze.t 51 [.d .str] [.Mrk,.bool] yf (by kernel_rfl) yf.fn
noncomputable def zA:List UInt8->Option ((List Mrk) × Fault) :=
 fun text_1 =>
 (yp text_1).bind fun (x_2,x_3) =>
 br (x_3.Err != 0)
  (some (([]:List Mrk),x_3))
  ((qO (σ:=(List Mrk) × Int × Fault) (ρ:=((List Mrk) × Fault) ⊕ ((List Mrk) × Fault)) (fun (out_4,i_5,x_6) =>
   br (decide (i_5 < (x_2.length:Int)))
    ((idx x_2 i_5).bind fun x_7 =>
    br ((x_7.Words.length:Int) != 1)
     ((idx x_7.Words 0).bind fun x_8 =>
     some (.done (.inl (([]:List Mrk),(⟨3,x_8.At⟩:Fault)))))
     ((idx x_7.Words 0).bind fun x_9 =>
     br (!(x_9.Key == ([]:List UInt8)))
      ((idx x_7.Words 0).bind fun x_10 =>
      some (.done (.inl (([]:List Mrk),(⟨3,x_10.At⟩:Fault)))))
      ((idx x_7.Words 0).bind fun x_11 =>
      (yf x_11.Text).bind fun (x_12,x_13) =>
      br (!x_13)
       ((idx x_7.Words 0).bind fun x_14 =>
       some (.done (.inl (([]:List Mrk),(⟨3,x_14.At⟩:Fault)))))
       ((app 32 out_4 ([x_12]:List Mrk)).bind fun x_15 =>
       (zG x_15).bind fun (x_16,x_17) =>
       br (x_16 != 0)
        ((idx x_7.Words 0).bind fun x_18 =>
        some (.done (.inl (([]:List Mrk),(⟨x_16,x_18.At⟩:Fault)))))
        ((zO .i64 i_5 1).bind fun x_19 =>
        some (.next (x_15,x_19,x_6)))))))
    (some (.done (.inr (out_4,x_6))))) (([]:List Mrk),0,(⟨0,0⟩:Fault))).bind fun x_24 =>
  Sum.elim
   (fun (x_20,x_21) =>
   some (x_20,x_21))
   (fun (out_22,x_23) =>
   some (out_22,(⟨0,0⟩:Fault))) x_24)
def zA.ann:Ann:=(.two .no (.two .no (.two .no (.two .no (.two (.two .no (.loop [2,6,7,8,9,10,11,12,22,23,24,25,26,27,28,29,30,31,32,33,34,35,36,37,38,39,40,41,42,43,44,45,46,47,48,49,50,51,52,53,54,55,56,57,58,59,60,61,62,63,64,65,66,67,68,69,70,71,72,73,74,75,76,77,78,79] [0] [.slot 6 .l_Mrk (some (6,81)),.slot 7 .i64 none,.box 0 .Fault] [(.ret,[.slot 2 .l_Mrk (some (2,81)),.box 0 .Fault]),(.exit 0,[.slot 6 .l_Mrk (some (6,81)),.box 0 .Fault])] .no)) .no)))))
set_option maxRecDepth 100000 in
theorem zA.fn:FnT Tryz.prog 17 [.d .str] [.l_Mrk,.Fault] zA :=
 FnT.of (X:=ctx 0 [yp.spec,yf.spec,zG.spec]) Tryz.mixed zA.ann Tryz.func17 rfl (by kernel_rfl) (zue rfl) (fun x=>by kernel_rfl)
noncomputable def zA.spec:ze Tryz.prog:=ze.t 17 [.d .str] [.l_Mrk,.Fault] zA (by kernel_rfl) zA.fn
noncomputable def zJ:((List Mrk) × (List UInt8))->Option Bool :=
 fun (l_1,text_2) =>
 br (decide (200 < (l_1.length:Int)))
  (br (decide ((l_1.length:Int) < 1200))
   ((zi ()).bind fun x_3 =>
   some x_3)
   (br (decide (1300 < (l_1.length:Int)))
    ((zi ()).bind fun x_4 =>
    some x_4)
    (br (decide (3000 < (text_2.length:Int)))
     ((zi ()).bind fun x_5 =>
     some x_5)
     ((y9 l_1).bind fun (x_6,x_7) =>
     (zF l_1).bind fun (x_8,x_9) =>
     (ql text_2).bind fun (x_10,x_11) =>
     (zA text_2).bind fun (x_12,x_13) =>
     br (x_6 == x_8)
      (br (x_7 == x_9)
       ((zd (x_10,x_12)).bind fun x_14 =>
       br x_14
        (br ((x_11.Err == x_13.Err) && (x_11.At == x_13.At))
         ((zi ()).bind fun x_15 =>
         some x_15)
         (some false))
        (some false))
       (some false))
      (some false)))))
  (br (decide (1300 < (l_1.length:Int)))
   ((zi ()).bind fun x_16 =>
   some x_16)
   (br (decide (3000 < (text_2.length:Int)))
    ((zi ()).bind fun x_17 =>
    some x_17)
    ((y9 l_1).bind fun (x_18,x_19) =>
    (zF l_1).bind fun (x_20,x_21) =>
    (ql text_2).bind fun (x_22,x_23) =>
    (zA text_2).bind fun (x_24,x_25) =>
    br (x_18 == x_20)
     (br (x_19 == x_21)
      ((zd (x_22,x_24)).bind fun x_26 =>
      br x_26
       (br ((x_23.Err == x_25.Err) && (x_23.At == x_25.At))
        ((zi ()).bind fun x_27 =>
        some x_27)
        (some false))
       (some false))
      (some false))
     (some false))))
def zJ.ann:Ann:=.no
set_option maxRecDepth 100000 in
theorem zJ.fn:FnT Tryz.prog 4 [.d .l_Mrk,.d .str] [.bool] zJ :=
 FnT.of (X:=ctx 0 [zi.spec,y9.spec,zF.spec,ql.spec,zA.spec,zd.spec]) Tryz.mixed zJ.ann Tryz.func4 rfl (by kernel_rfl) (zue rfl) (fun x=>by kernel_rfl)
noncomputable def zJ.spec:ze Tryz.prog:=ze.t 4 [.d .l_Mrk,.d .str] [.bool] zJ (by kernel_rfl) zJ.fn
end Go.Proofs.YtjcbpfhlgebgdaaGreatDoor
