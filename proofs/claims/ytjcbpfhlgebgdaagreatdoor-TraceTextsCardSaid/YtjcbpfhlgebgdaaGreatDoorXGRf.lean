import Derived.Test.YtjcbpfhlgebgdaaGreatDoorXGWo
import Derived.Test.YtjcbpfhlgebgdaaGreatDoorX9
import Derived.Test.YtjcbpfhlgebgdaaGreatDoorChecked
import Derived.KernelRfl
open Nat renaming le_of_ble_eq_true -> zvK
set_option linter.unusedSimpArgs false
set_option linter.unusedVariables false
namespace Go.Proofs.YtjcbpfhlgebgdaaGreatDoor
open Go.X Go.Eng
noncomputable def zJ:List UInt8->Option Bool :=
 fun s_1 =>
 (qg (σ:=Int) (ρ:=(Bool) ⊕ (Unit)) (fun i_2 =>
  br (decide (i_2 < (s_1.length:Int)))
   ((yq s_1 i_2).bind fun x_3 =>
   br (decide (97 <= x_3))
    ((yq s_1 i_2).bind fun x_4 =>
    br (!(decide (x_4 <= 122)))
     (br (i_2 == 0)
      (some (.done (.inl false)))
      ((yq s_1 i_2).bind fun x_5 =>
      br (decide (x_5 < 48))
             ((yq s_1 i_2).bind fun x_6 =>
             br (x_6 != 45)
              (some (.done (.inl false)))
              ((zD .i64 i_2 1).bind fun x_7 =>
              some (.next x_7)))
             ((yq s_1 i_2).bind fun x_8 =>
             br (decide (57 < x_8))
              ((yq s_1 i_2).bind fun x_9 =>
              br (x_9 != 45)
               (some (.done (.inl false)))
               ((zD .i64 i_2 1).bind fun x_10 =>
               some (.next x_10)))
              ((zD .i64 i_2 1).bind fun x_11 =>
              some (.next x_11)))))
     ((zD .i64 i_2 1).bind fun x_12 =>
     some (.next x_12)))
    (br (i_2 == 0)
     (some (.done (.inl false)))
     ((yq s_1 i_2).bind fun x_13 =>
     br (decide (x_13 < 48))
      ((yq s_1 i_2).bind fun x_14 =>
      br (x_14 != 45)
             (some (.done (.inl false)))
             ((zD .i64 i_2 1).bind fun x_15 =>
             some (.next x_15)))
      ((yq s_1 i_2).bind fun x_16 =>
      br (decide (57 < x_16))
             ((yq s_1 i_2).bind fun x_17 =>
             br (x_17 != 45)
              (some (.done (.inl false)))
              ((zD .i64 i_2 1).bind fun x_18 =>
              some (.next x_18)))
             ((zD .i64 i_2 1).bind fun x_19 =>
             some (.next x_19))))))
   (some (.done (.inr ())))) 0).bind fun x_21 =>
 Sum.elim
  (fun x_20 =>
  some x_20)
  (fun _ =>
  br (!(s_1 == ([]:List UInt8)))
   (some (decide ((s_1.length:Int) <= 20)))
   (some false)) x_21
def zJ.ann:Ann:=(.two .no (.two (.two .no (.loop [2,3,4,5,6,7,8,9,10,11,12,13,14,15,16,17,18,19,20,21,22,23,24,25,26,27,28,29,30,31,32,33,34,35,36,37,38,39,40,41,42,43,44] [] [.slot 3 .i64 none] [(.ret,[.slot 2 .bool none]),(.exit 0,[])] .no)) .no))
set_option maxRecDepth 100000 in
theorem zJ.fn:FnT Tryz.prog 75 [.d .str] [.bool] zJ :=
 FnT.of (X:=ctx 0 []) Tryz.mixed zJ.ann Tryz.func75 rfl (by kernel_rfl) (zvK rfl) (fun x=>by kernel_rfl)
noncomputable def zJ.spec:zb Tryz.prog:=zb.t 75 [.d .str] [.bool] zJ (by kernel_rfl) zJ.fn
noncomputable def zO:Int->Option Int :=
 fun c_1 =>
 br (decide (48 <= c_1))
  (br (decide (c_1 <= 57))
   ((Z9 .u8 c_1 48).bind fun x_2 =>
   some (Go.IntKind.wrap .i64 x_2))
   (br (decide (97 <= c_1))
    (br (decide (c_1 <= 102))
     ((Z9 .u8 c_1 97).bind fun x_3 =>
     (zD .i64 (Go.IntKind.wrap .i64 x_3) 10).bind fun x_4 =>
     some x_4)
     (some (-1)))
    (some (-1))))
  (br (decide (97 <= c_1))
   (br (decide (c_1 <= 102))
    ((Z9 .u8 c_1 97).bind fun x_5 =>
    (zD .i64 (Go.IntKind.wrap .i64 x_5) 10).bind fun x_6 =>
    some x_6)
    (some (-1)))
   (some (-1)))
def zO.ann:Ann:=.no
set_option maxRecDepth 100000 in
theorem zO.fn:FnT Tryz.prog 161 [.d .u8] [.i64] zO :=
 FnT.of (X:=ctx 0 []) Tryz.mixed zO.ann Tryz.func161 rfl (by kernel_rfl) (zvK rfl) (fun x=>by kernel_rfl)
noncomputable def zO.spec:zb Tryz.prog:=zb.t 161 [.d .u8] [.i64] zO (by kernel_rfl) zO.fn
noncomputable def zr:((List UInt8) × Int)->Option (Int × Int) :=
 fun (s_1,at_2) =>
 br (decide ((s_1.length:Int) <= at_2))
  (some (0,0))
  ((yq s_1 at_2).bind fun x_3 =>
  br (decide (x_3 < 32))
   (some (0,0))
   ((yq s_1 at_2).bind fun x_4 =>
   br (decide (126 < x_4))
    (some (0,0))
    ((yq s_1 at_2).bind fun x_5 =>
    br (x_5 == 34)
     (some (0,0))
     ((yq s_1 at_2).bind fun x_6 =>
     br (x_6 != 92)
      ((yq s_1 at_2).bind fun x_7 =>
      some (x_7,1))
      ((zD .i64 at_2 1).bind fun x_8 =>
      br (decide ((s_1.length:Int) <= x_8))
       (some (0,0))
       ((zD .i64 at_2 1).bind fun x_9 =>
       (yq s_1 x_9).bind fun x_10 =>
       br (x_10 == 34)
        ((zD .i64 at_2 1).bind fun x_11 =>
        (yq s_1 x_11).bind fun x_12 =>
        some (x_12,2))
        (br (x_10 == 92)
         ((zD .i64 at_2 1).bind fun x_13 =>
         (yq s_1 x_13).bind fun x_14 =>
         some (x_14,2))
         (br (x_10 == 110)
          (some (10,2))
          (br (x_10 == 120)
           ((zD .i64 at_2 3).bind fun x_15 =>
           br (decide (x_15 < (s_1.length:Int)))
            ((zD .i64 at_2 2).bind fun x_16 =>
            (yq s_1 x_16).bind fun x_17 =>
            (zO x_17).bind fun x_18 =>
            br (decide (0 <= x_18))
             ((zD .i64 at_2 3).bind fun x_19 =>
             (yq s_1 x_19).bind fun x_20 =>
             (zO x_20).bind fun x_21 =>
             br (decide (0 <= x_21))
              ((zD .i64 at_2 2).bind fun x_22 =>
              (yq s_1 x_22).bind fun x_23 =>
              (zO x_23).bind fun x_24 =>
              (zbA .i64 16 x_24).bind fun x_25 =>
              (zD .i64 at_2 3).bind fun x_26 =>
              (yq s_1 x_26).bind fun x_27 =>
              (zO x_27).bind fun x_28 =>
              (zD .i64 x_25 x_28).bind fun x_29 =>
              some (Go.IntKind.wrap .u8 x_29,4))
              (some (0,0)))
             (some (0,0)))
            (some (0,0)))
           (some (0,0)))))))))))
def zr.ann:Ann:=.no
set_option maxRecDepth 100000 in
theorem zr.fn:FnT Tryz.prog 157 [.d .str,.d .i64] [.u8,.i64] zr :=
 FnT.of (X:=ctx 0 [zO.spec]) Tryz.mixed zr.ann Tryz.func157 rfl (by kernel_rfl) (zvK rfl) (fun x=>by kernel_rfl)
noncomputable def zr.spec:zb Tryz.prog:=zb.t 157 [.d .str,.d .i64] [.u8,.i64] zr (by kernel_rfl) zr.fn
noncomputable def yd:((List UInt8) × Int)->Option ((List UInt8) × Int) :=
 fun (s_1,at_2) =>
 br (decide ((s_1.length:Int) <= at_2))
  (some (([]:List UInt8),(-1)))
  ((yq s_1 at_2).bind fun x_3 =>
  br (x_3 != 34)
   (some (([]:List UInt8),(-1)))
   ((zD .i64 at_2 1).bind fun x_4 =>
   (qg (σ:=Int × (List Int)) (ρ:=Int × (List Int)) (fun (at_5,out_6) =>
    (zr (s_1,at_5)).bind fun (x_7,x_8) =>
    br (x_8 == 0)
     (some (.done (at_5,out_6)))
     ((app 1 out_6 ([x_7]:List Int)).bind fun x_9 =>
     (zD .i64 at_5 x_8).bind fun x_10 =>
     some (.next (x_10,x_9)))) (x_4,([]:List Int))).bind fun (at_11,out_12) =>
   br (decide ((s_1.length:Int) <= at_11))
    (some (([]:List UInt8),(-1)))
    ((yq s_1 at_11).bind fun x_13 =>
    br (x_13 != 34)
     (some (([]:List UInt8),(-1)))
     ((Y7 out_12).bind fun x_14 =>
     (zD .i64 at_11 1).bind fun x_15 =>
     some (x_14,x_15)))))
def yd.ann:Ann:=(.two .no (.two .no (.two .no (.two .no (.two (.loop [1,6,7,8,21,22,23,24,25,26,27,28,29,30,31,32,33,34,35] [] [.slot 1 .i64 none,.slot 6 .l_u8 (some (6,5))] [(.exit 0,[.slot 1 .i64 none,.slot 6 .l_u8 (some (6,5))])] .no) .no)))))
set_option maxRecDepth 100000 in
theorem yd.fn:FnT Tryz.prog 142 [.d .str,.d .i64] [.str,.i64] yd :=
 FnT.of (X:=ctx 0 [zr.spec]) Tryz.mixed yd.ann Tryz.func142 rfl (by kernel_rfl) (zvK rfl) (fun x=>by kernel_rfl)
noncomputable def yd.spec:zb Tryz.prog:=zb.t 142 [.d .str,.d .i64] [.str,.i64] yd (by kernel_rfl) yd.fn
noncomputable def yv:Int->Option Bool :=
 fun c_1 =>
 br (decide (33 <= c_1))
  (br (decide (c_1 <= 126))
   (br (c_1 != 34)
    (br (c_1 != 61)
     (some (c_1 != 92))
     (some false))
    (some false))
   (some false))
  (some false)
def yv.ann:Ann:=.no
set_option maxRecDepth 100000 in
theorem yv.fn:FnT Tryz.prog 128 [.d .u8] [.bool] yv :=
 FnT.of (X:=ctx 0 []) Tryz.mixed yv.ann Tryz.func128 rfl (by kernel_rfl) (zvK rfl) (fun x=>by kernel_rfl)
noncomputable def yv.spec:zb Tryz.prog:=zb.t 128 [.d .u8] [.bool] yv (by kernel_rfl) yv.fn
noncomputable def zu:List UInt8->Option Bool :=
 fun s_1 =>
 (qg (σ:=Int) (ρ:=(Bool) ⊕ (Unit)) (fun i_2 =>
  br (decide (i_2 < (s_1.length:Int)))
   ((yq s_1 i_2).bind fun x_3 =>
   (yv x_3).bind fun x_4 =>
   br (!x_4)
    (some (.done (.inl false)))
    ((zD .i64 i_2 1).bind fun x_5 =>
    some (.next x_5)))
   (some (.done (.inr ())))) 0).bind fun x_8 =>
 Sum.elim
  (fun x_6 =>
  some x_6)
  (fun _ =>
  br (!(s_1 == ([]:List UInt8)))
   ((yq s_1 0).bind fun x_7 =>
   some (x_7 != 35))
   (some false)) x_8
def zu.ann:Ann:=(.two .no (.two (.two .no (.loop [2,3,4,5,6,7,8,9,10,11,12,13,14] [] [.slot 3 .i64 none] [(.ret,[.slot 2 .bool none]),(.exit 0,[])] .no)) .no))
set_option maxRecDepth 100000 in
theorem zu.fn:FnT Tryz.prog 106 [.d .str] [.bool] zu :=
 FnT.of (X:=ctx 0 [yv.spec]) Tryz.mixed zu.ann Tryz.func106 rfl (by kernel_rfl) (zvK rfl) (fun x=>by kernel_rfl)
noncomputable def zu.spec:zb Tryz.prog:=zb.t 106 [.d .str] [.bool] zu (by kernel_rfl) zu.fn
noncomputable def zi:((List UInt8) × Int)->Option ((List UInt8) × Int) :=
 fun (s_1,at_2) =>
 br (decide (at_2 < (s_1.length:Int)))
  ((yq s_1 at_2).bind fun x_3 =>
  br (x_3 == 34)
   ((yd (s_1,at_2)).bind fun (x_4,x_5) =>
   br (decide (x_5 < 0))
    (some (([]:List UInt8),(-1)))
    (br (decide (x_5 < (s_1.length:Int)))
     ((yq s_1 x_5).bind fun x_6 =>
     br (x_6 != 32)
      (some (([]:List UInt8),(-1)))
      (some (x_4,x_5)))
     (some (x_4,x_5))))
   ((qg (σ:=Int) (ρ:=Int) (fun end_7 =>
    br (decide (end_7 < (s_1.length:Int)))
     ((yq s_1 end_7).bind fun x_8 =>
     br (x_8 != 32)
      ((zD .i64 end_7 1).bind fun x_9 =>
      some (.next x_9))
      (some (.done end_7)))
     (some (.done end_7))) at_2).bind fun end_10 =>
   (slc s_1 at_2 end_10).bind fun x_11 =>
   (zu x_11).bind fun x_12 =>
   br (!x_12)
    (some (([]:List UInt8),(-1)))
    ((slc s_1 at_2 end_10).bind fun x_13 =>
    some (x_13,end_10))))
  ((qg (σ:=Int) (ρ:=Int) (fun end_14 =>
   br (decide (end_14 < (s_1.length:Int)))
    ((yq s_1 end_14).bind fun x_15 =>
    br (x_15 != 32)
     ((zD .i64 end_14 1).bind fun x_16 =>
     some (.next x_16))
     (some (.done end_14)))
    (some (.done end_14))) at_2).bind fun end_17 =>
  (slc s_1 at_2 end_17).bind fun x_18 =>
  (zu x_18).bind fun x_19 =>
  br (!x_19)
   (some (([]:List UInt8),(-1)))
   ((slc s_1 at_2 end_17).bind fun x_20 =>
   some (x_20,end_17)))
def zi.ann:Ann:=(.two .no (.two .no (.two .no (.two (.loop [8,42,43,44,45,46,47,48,49,50,51,52,53] [] [.slot 8 .i64 none] [(.exit 0,[.slot 8 .i64 none])] .no) .no))))
set_option maxRecDepth 100000 in
theorem zi.fn:FnT Tryz.prog 127 [.d .str,.d .i64] [.str,.i64] zi :=
 FnT.of (X:=ctx 0 [yd.spec,zu.spec]) Tryz.mixed zi.ann Tryz.func127 rfl (by kernel_rfl) (zvK rfl) (fun x=>by kernel_rfl)
noncomputable def zi.spec:zb Tryz.prog:=zb.t 127 [.d .str,.d .i64] [.str,.i64] zi (by kernel_rfl) zi.fn
noncomputable def zP:((List UInt8) × Int)->Option (Word × Int) :=
 fun (line_1,at_2) =>
 (qg (σ:=Int) (ρ:=Int) (fun end_3 =>
  br (decide (end_3 < (line_1.length:Int)))
   ((yq line_1 end_3).bind fun x_4 =>
   br (x_4 != 32)
    ((yq line_1 end_3).bind fun x_5 =>
    br (x_5 != 61)
     ((yq line_1 end_3).bind fun x_6 =>
     br (x_6 != 34)
      ((zD .i64 end_3 1).bind fun x_7 =>
      some (.next x_7))
      (some (.done end_3)))
     (some (.done end_3)))
    (some (.done end_3)))
   (some (.done end_3))) at_2).bind fun end_8 =>
 br (decide (end_8 < (line_1.length:Int)))
  ((yq line_1 end_8).bind fun x_9 =>
  br (x_9 == 61)
   ((slc line_1 at_2 end_8).bind fun x_10 =>
   (zJ x_10).bind fun x_11 =>
   br (!x_11)
    (some ((⟨at_2,([]:List UInt8),([]:List UInt8)⟩:Word),(-1)))
    ((slc line_1 at_2 end_8).bind fun x_12 =>
    (zD .i64 end_8 1).bind fun x_13 =>
    (zi (line_1,x_13)).bind fun (x_14,x_15) =>
    some ((⟨at_2,x_12,x_14⟩:Word),x_15)))
   ((zi (line_1,at_2)).bind fun (x_16,x_17) =>
   some ((⟨at_2,([]:List UInt8),x_16⟩:Word),x_17)))
  ((zi (line_1,at_2)).bind fun (x_18,x_19) =>
  some ((⟨at_2,([]:List UInt8),x_18⟩:Word),x_19))
def zP.ann:Ann:=(.two .no (.two .no (.two .no (.two (.loop [7,14,15,16,17,18,19,20,21,22,23,24,25,26,27,28,29,30,31,32,33,34,35,36,37] [] [.slot 7 .i64 none] [(.exit 0,[.slot 7 .i64 none])] .no) .no))))
set_option maxRecDepth 100000 in
theorem zP.fn:FnT Tryz.prog 104 [.d .str,.d .i64] [.Word,.i64] zP :=
 FnT.of (X:=ctx 0 [zJ.spec,zi.spec]) Tryz.mixed zP.ann Tryz.func104 rfl (by kernel_rfl) (zvK rfl) (fun x=>by kernel_rfl)
noncomputable def zP.spec:zb Tryz.prog:=zb.t 104 [.d .str,.d .i64] [.Word,.i64] zP (by kernel_rfl) zP.fn
noncomputable def qm:List UInt8->Option ((List Word) × Int) :=
 fun line_1 =>
 (qg (σ:=(List Word) × Int) (ρ:=((List Word) × Int) ⊕ (List Word)) (fun (out_2,at_3) =>
  br (decide (at_3 < (line_1.length:Int)))
   ((yq line_1 at_3).bind fun x_4 =>
   br (x_4 != 35)
    ((yq line_1 at_3).bind fun x_5 =>
    br (x_5 == 32)
     ((zD .i64 at_3 1).bind fun x_6 =>
     some (.next (out_2,x_6)))
     ((zP (line_1,at_3)).bind fun (x_7,x_8) =>
     br (decide (x_8 < 0))
      (some (.done (.inl (([]:List Word),at_3))))
      ((app 40 out_2 ([x_7]:List Word)).bind fun x_9 =>
      some (.next (x_9,x_8)))))
    (some (.done (.inr out_2))))
   (some (.done (.inr out_2)))) (([]:List Word),0)).bind fun x_13 =>
 Sum.elim
  (fun (x_10,x_11) =>
  some (x_10,x_11))
  (fun out_12 =>
  some (out_12,(-1))) x_13
def qm.ann:Ann:=(.two .no (.two .no (.two .no (.two (.loop [2,3,4,5,6,7,8,9,10,11,12,13,14,15,16,17,18,19,20,21,22,23,24,25,26,27,28,29,30,31,32,33,34,35,36,37] [] [.slot 4 .l_Word (some (4,57)),.slot 5 .i64 none] [(.ret,[.slot 2 .l_Word (some (2,57)),.slot 3 .i64 none]),(.exit 0,[.slot 4 .l_Word (some (4,57))])] .no) .no))))
set_option maxRecDepth 100000 in
theorem qm.fn:FnT Tryz.prog 69 [.d .str] [.l_Word,.i64] qm :=
 FnT.of (X:=ctx 0 [zP.spec]) Tryz.mixed qm.ann Tryz.func69 rfl (by kernel_rfl) (zvK rfl) (fun x=>by kernel_rfl)
noncomputable def qm.spec:zb Tryz.prog:=zb.t 69 [.d .str] [.l_Word,.i64] qm (by kernel_rfl) qm.fn
end Go.Proofs.YtjcbpfhlgebgdaaGreatDoor
