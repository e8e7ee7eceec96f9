import Derived.Test.YtjcbpfhlgebgdaaGreatDoorXGWo
import Derived.Test.YtjcbpfhlgebgdaaGreatDoorX9
import Derived.Test.YtjcbpfhlgebgdaaGreatDoorChecked
import Derived.KernelRfl
open Nat renaming le_of_ble_eq_true -> zue
set_option linter.unusedSimpArgs false
set_option linter.unusedVariables false
namespace Go.Proofs.YtjcbpfhlgebgdaaGreatDoor
open Go.X Go.Eng
noncomputable def zU:List UInt8->Option Bool :=
 fun s_1 =>
 (qO (σ:=Int) (ρ:=(Bool) ⊕ (Unit)) (fun i_2 =>
  br (decide (i_2 < (s_1.length:Int)))
   ((yi s_1 i_2).bind fun x_3 =>
   br (decide (97 <= x_3))
    ((yi s_1 i_2).bind fun x_4 =>
    br (!(decide (x_4 <= 122)))
     (br (i_2 == 0)
      (some (.done (.inl false)))
      ((yi s_1 i_2).bind fun x_5 =>
      br (decide (x_5 < 48))
             ((yi s_1 i_2).bind fun x_6 =>
             br (x_6 != 45)
              (some (.done (.inl false)))
              ((zO .i64 i_2 1).bind fun x_7 =>
              some (.next x_7)))
             ((yi s_1 i_2).bind fun x_8 =>
             br (decide (57 < x_8))
              ((yi s_1 i_2).bind fun x_9 =>
              br (x_9 != 45)
               (some (.done (.inl false)))
               ((zO .i64 i_2 1).bind fun x_10 =>
               some (.next x_10)))
              ((zO .i64 i_2 1).bind fun x_11 =>
              some (.next x_11)))))
     ((zO .i64 i_2 1).bind fun x_12 =>
     some (.next x_12)))
    (br (i_2 == 0)
     (some (.done (.inl false)))
     ((yi s_1 i_2).bind fun x_13 =>
     br (decide (x_13 < 48))
      ((yi s_1 i_2).bind fun x_14 =>
      br (x_14 != 45)
             (some (.done (.inl false)))
             ((zO .i64 i_2 1).bind fun x_15 =>
             some (.next x_15)))
      ((yi s_1 i_2).bind fun x_16 =>
      br (decide (57 < x_16))
             ((yi s_1 i_2).bind fun x_17 =>
             br (x_17 != 45)
              (some (.done (.inl false)))
              ((zO .i64 i_2 1).bind fun x_18 =>
              some (.next x_18)))
             ((zO .i64 i_2 1).bind fun x_19 =>
             some (.next x_19))))))
   (some (.done (.inr ())))) 0).bind fun x_21 =>
 Sum.elim
  (fun x_20 =>
  some x_20)
  (fun _ =>
  br (!(s_1 == ([]:List UInt8)))
   (some (decide ((s_1.length:Int) <= 20)))
   (some false)) x_21
def zU.ann:Ann:=(.two .no (.two (.two .no (.loop [2,3,4,5,6,7,8,9,10,11,12,13,14,15,16,17,18,19,20,21,22,23,24,25,26,27,28,29,30,31,32,33,34,35,36,37,38,39,40,41,42,43,44] [] [.slot 3 .i64 none] [(.ret,[.slot 2 .bool none]),(.exit 0,[])] .no)) .no))
set_option maxRecDepth 100000 in
theorem zU.fn:FnT Tryz.prog 75 [.d .str] [.bool] zU :=
 FnT.of (X:=ctx 0 []) Tryz.mixed zU.ann Tryz.func75 rfl (by kernel_rfl) (zue rfl) (fun x=>by kernel_rfl)
noncomputable def zU.spec:ze Tryz.prog:=ze.t 75 [.d .str] [.bool] zU (by kernel_rfl) zU.fn
noncomputable def zE:Int->Option Int :=
 fun c_1 =>
 br (decide (48 <= c_1))
  (br (decide (c_1 <= 57))
   ((Yb .u8 c_1 48).bind fun x_2 =>
   some (Go.IntKind.wrap .i64 x_2))
   (br (decide (97 <= c_1))
    (br (decide (c_1 <= 102))
     ((Yb .u8 c_1 97).bind fun x_3 =>
     (zO .i64 (Go.IntKind.wrap .i64 x_3) 10).bind fun x_4 =>
     some x_4)
     (some (-1)))
    (some (-1))))
  (br (decide (97 <= c_1))
   (br (decide (c_1 <= 102))
    ((Yb .u8 c_1 97).bind fun x_5 =>
    (zO .i64 (Go.IntKind.wrap .i64 x_5) 10).bind fun x_6 =>
    some x_6)
    (some (-1)))
   (some (-1)))
def zE.ann:Ann:=.no
set_option maxRecDepth 100000 in
theorem zE.fn:FnT Tryz.prog 161 [.d .u8] [.i64] zE :=
 FnT.of (X:=ctx 0 []) Tryz.mixed zE.ann Tryz.func161 rfl (by kernel_rfl) (zue rfl) (fun x=>by kernel_rfl)
noncomputable def zE.spec:ze Tryz.prog:=ze.t 161 [.d .u8] [.i64] zE (by kernel_rfl) zE.fn
noncomputable def zl:((List UInt8) × Int)->Option (Int × Int) :=
 fun (s_1,at_2) =>
 br (decide ((s_1.length:Int) <= at_2))
  (some (0,0))
  ((yi s_1 at_2).bind fun x_3 =>
  br (decide (x_3 < 32))
   (some (0,0))
   ((yi s_1 at_2).bind fun x_4 =>
   br (decide (126 < x_4))
    (some (0,0))
    ((yi s_1 at_2).bind fun x_5 =>
    br (x_5 == 34)
     (some (0,0))
     ((yi s_1 at_2).bind fun x_6 =>
     br (x_6 != 92)
      ((yi s_1 at_2).bind fun x_7 =>
      some (x_7,1))
      ((zO .i64 at_2 1).bind fun x_8 =>
      br (decide ((s_1.length:Int) <= x_8))
       (some (0,0))
       ((zO .i64 at_2 1).bind fun x_9 =>
       (yi s_1 x_9).bind fun x_10 =>
       br (x_10 == 34)
        ((zO .i64 at_2 1).bind fun x_11 =>
        (yi s_1 x_11).bind fun x_12 =>
        some (x_12,2))
        (br (x_10 == 92)
         ((zO .i64 at_2 1).bind fun x_13 =>
         (yi s_1 x_13).bind fun x_14 =>
         some (x_14,2))
         (br (x_10 == 110)
          (some (10,2))
          (br (x_10 == 120)
           ((zO .i64 at_2 3).bind fun x_15 =>
           br (decide (x_15 < (s_1.length:Int)))
            ((zO .i64 at_2 2).bind fun x_16 =>
            (yi s_1 x_16).bind fun x_17 =>
            (zE x_17).bind fun x_18 =>
            br (decide (0 <= x_18))
             ((zO .i64 at_2 3).bind fun x_19 =>
             (yi s_1 x_19).bind fun x_20 =>
             (zE x_20).bind fun x_21 =>
             br (decide (0 <= x_21))
              ((zO .i64 at_2 2).bind fun x_22 =>
              (yi s_1 x_22).bind fun x_23 =>
              (zE x_23).bind fun x_24 =>
              (zbd .i64 16 x_24).bind fun x_25 =>
              (zO .i64 at_2 3).bind fun x_26 =>
              (yi s_1 x_26).bind fun x_27 =>
              (zE x_27).bind fun x_28 =>
              (zO .i64 x_25 x_28).bind fun x_29 =>
              some (Go.IntKind.wrap .u8 x_29,4))
              (some (0,0)))
             (some (0,0)))
            (some (0,0)))
           (some (0,0)))))))))))
def zl.ann:Ann:=.no
set_option maxRecDepth 100000 in
theorem zl.fn:FnT Tryz.prog 157 [.d .str,.d .i64] [.u8,.i64] zl :=
 FnT.of (X:=ctx 0 [zE.spec]) Tryz.mixed zl.ann Tryz.func157 rfl (by kernel_rfl) (zue rfl) (fun x=>by kernel_rfl)
noncomputable def zl.spec:ze Tryz.prog:=ze.t 157 [.d .str,.d .i64] [.u8,.i64] zl (by kernel_rfl) zl.fn
noncomputable def zQ:((List UInt8) × Int)->Option ((List UInt8) × Int) :=
 fun (s_1,at_2) =>
 br (decide ((s_1.length:Int) <= at_2))
  (some (([]:List UInt8),(-1)))
  ((yi s_1 at_2).bind fun x_3 =>
  br (x_3 != 34)
   (some (([]:List UInt8),(-1)))
   ((zO .i64 at_2 1).bind fun x_4 =>
   (qO (σ:=Int × (List Int)) (ρ:=Int × (List Int)) (fun (at_5,out_6) =>
    (zl (s_1,at_5)).bind fun (x_7,x_8) =>
    br (x_8 == 0)
     (some (.done (at_5,out_6)))
     ((app 1 out_6 ([x_7]:List Int)).bind fun x_9 =>
     (zO .i64 at_5 x_8).bind fun x_10 =>
     some (.next (x_10,x_9)))) (x_4,([]:List Int))).bind fun (at_11,out_12) =>
   br (decide ((s_1.length:Int) <= at_11))
    (some (([]:List UInt8),(-1)))
    ((yi s_1 at_11).bind fun x_13 =>
    br (x_13 != 34)
     (some (([]:List UInt8),(-1)))
     ((zab out_12).bind fun x_14 =>
     (zO .i64 at_11 1).bind fun x_15 =>
     some (x_14,x_15)))))
def zQ.ann:Ann:=(.two .no (.two .no (.two .no (.two .no (.two (.loop [1,6,7,8,21,22,23,24,25,26,27,28,29,30,31,32,33,34,35] [] [.slot 1 .i64 none,.slot 6 .l_u8 (some (6,5))] [(.exit 0,[.slot 1 .i64 none,.slot 6 .l_u8 (some (6,5))])] .no) .no)))))
set_option maxRecDepth 100000 in
theorem zQ.fn:FnT Tryz.prog 142 [.d .str,.d .i64] [.str,.i64] zQ :=
 FnT.of (X:=ctx 0 [zl.spec]) Tryz.mixed zQ.ann Tryz.func142 rfl (by kernel_rfl) (zue rfl) (fun x=>by kernel_rfl)
noncomputable def zQ.spec:ze Tryz.prog:=ze.t 142 [.d .str,.d .i64] [.str,.i64] zQ (by kernel_rfl) zQ.fn
noncomputable def ye:Int->Option Bool :=
 fun c_1 =>
 br (decide (33 <= c_1))
  (br (decide (c_1 <= 126))
   (br (c_1 != 34)
    (br (c_1 != 61)
     (some (c_1 != 92))
     (some false))
    (some false))
   (some false))
  (some false)
def ye.ann:Ann:=.no
set_option maxRecDepth 100000 in
theorem ye.fn:FnT Tryz.prog 128 [.d .u8] [.bool] ye :=
 FnT.of (X:=ctx 0 []) Tryz.mixed ye.ann Tryz.func128 rfl (by kernel_rfl) (zue rfl) (fun x=>by kernel_rfl)
noncomputable def ye.spec:ze Tryz.prog:=ze.t 128 [.d .u8] [.bool] ye (by kernel_rfl) ye.fn
noncomputable def zr:List UInt8->Option Bool :=
 fun s_1 =>
 (qO (σ:=Int) (ρ:=(Bool) ⊕ (Unit)) (fun i_2 =>
  br (decide (i_2 < (s_1.length:Int)))
   ((yi s_1 i_2).bind fun x_3 =>
   (ye x_3).bind fun x_4 =>
   br (!x_4)
    (some (.done (.inl false)))
    ((zO .i64 i_2 1).bind fun x_5 =>
    some (.next x_5)))
   (some (.done (.inr ())))) 0).bind fun x_8 =>
 Sum.elim
  (fun x_6 =>
  some x_6)
  (fun _ =>
  br (!(s_1 == ([]:List UInt8)))
   ((yi s_1 0).bind fun x_7 =>
   some (x_7 != 35))
   (some false)) x_8
def zr.ann:Ann:=(.two .no (.two (.two .no (.loop [2,3,4,5,6,7,8,9,10,11,12,13,14] [] [.slot 3 .i64 none] [(.ret,[.slot 2 .bool none]),(.exit 0,[])] .no)) .no))
set_option maxRecDepth 100000 in
theorem zr.fn:FnT Tryz.prog 106 [.d .str] [.bool] zr :=
 FnT.of (X:=ctx 0 [ye.spec]) Tryz.mixed zr.ann Tryz.func106 rfl (by kernel_rfl) (zue rfl) (fun x=>by kernel_rfl)
noncomputable def zr.spec:ze Tryz.prog:=ze.t 106 [.d .str] [.bool] zr (by kernel_rfl) zr.fn
noncomputable def zh:((List UInt8) × Int)->Option ((List UInt8) × Int) :=
 fun (s_1,at_2) =>
 br (decide (at_2 < (s_1.length:Int)))
  ((yi s_1 at_2).bind fun x_3 =>
  br (x_3 == 34)
   ((zQ (s_1,at_2)).bind fun (x_4,x_5) =>
   br (decide (x_5 < 0))
    (some (([]:List UInt8),(-1)))
    (br (decide (x_5 < (s_1.length:Int)))
     ((yi s_1 x_5).bind fun x_6 =>
     br (x_6 != 32)
      (some (([]:List UInt8),(-1)))
      (some (x_4,x_5)))
     (some (x_4,x_5))))
   ((qO (σ:=Int) (ρ:=Int) (fun end_7 =>
    br (decide (end_7 < (s_1.length:Int)))
     ((yi s_1 end_7).bind fun x_8 =>
     br (x_8 != 32)
      ((zO .i64 end_7 1).bind fun x_9 =>
      some (.next x_9))
      (some (.done end_7)))
     (some (.done end_7))) at_2).bind fun end_10 =>
   (slc s_1 at_2 end_10).bind fun x_11 =>
   (zr x_11).bind fun x_12 =>
   br (!x_12)
    (some (([]:List UInt8),(-1)))
    ((slc s_1 at_2 end_10).bind fun x_13 =>
    some (x_13,end_10))))
  ((qO (σ:=Int) (ρ:=Int) (fun end_14 =>
   br (decide (end_14 < (s_1.length:Int)))
    ((yi s_1 end_14).bind fun x_15 =>
    br (x_15 != 32)
     ((zO .i64 end_14 1).bind fun x_16 =>
     some (.next x_16))
     (some (.done end_14)))
    (some (.done end_14))) at_2).bind fun end_17 =>
  (slc s_1 at_2 end_17).bind fun x_18 =>
  (zr x_18).bind fun x_19 =>
  br (!x_19)
   (some (([]:List UInt8),(-1)))
   ((slc s_1 at_2 end_17).bind fun x_20 =>
   some (x_20,end_17)))
def zh.ann:Ann:=(.two .no (.two .no (.two .no (.two (.loop [8,42,43,44,45,46,47,48,49,50,51,52,53] [] [.slot 8 .i64 none] [(.exit 0,[.slot 8 .i64 none])] .no) .no))))
set_option maxRecDepth 100000 in
theorem zh.fn:FnT Tryz.prog 127 [.d .str,.d .i64] [.str,.i64] zh :=
 FnT.of (X:=ctx 0 [zQ.spec,zr.spec]) Tryz.mixed zh.ann Tryz.func127 rfl (by kernel_rfl) (zue rfl) (fun x=>by kernel_rfl)
noncomputable def zh.spec:ze Tryz.prog:=ze.t 127 [.d .str,.d .i64] [.str,.i64] zh (by kernel_rfl) zh.fn
noncomputable def yz:((List UInt8) × Int)->Option (Word × Int) :=
 fun (line_1,at_2) =>
 (qO (σ:=Int) (ρ:=Int) (fun end_3 =>
  br (decide (end_3 < (line_1.length:Int)))
   ((yi line_1 end_3).bind fun x_4 =>
   br (x_4 != 32)
    ((yi line_1 end_3).bind fun x_5 =>
    br (x_5 != 61)
     ((yi line_1 end_3).bind fun x_6 =>
     br (x_6 != 34)
      ((zO .i64 end_3 1).bind fun x_7 =>
      some (.next x_7))
      (some (.done end_3)))
     (some (.done end_3)))
    (some (.done end_3)))
   (some (.done end_3))) at_2).bind fun end_8 =>
 br (decide (end_8 < (line_1.length:Int)))
  ((yi line_1 end_8).bind fun x_9 =>
  br (x_9 == 61)
   ((slc line_1 at_2 end_8).bind fun x_10 =>
   (zU x_10).bind fun x_11 =>
   br (!x_11)
    (some ((⟨at_2,([]:List UInt8),([]:List UInt8)⟩:Word),(-1)))
    ((slc line_1 at_2 end_8).bind fun x_12 =>
    (zO .i64 end_8 1).bind fun x_13 =>
    (zh (line_1,x_13)).bind fun (x_14,x_15) =>
    some ((⟨at_2,x_12,x_14⟩:Word),x_15)))
   ((zh (line_1,at_2)).bind fun (x_16,x_17) =>
   some ((⟨at_2,([]:List UInt8),x_16⟩:Word),x_17)))
  ((zh (line_1,at_2)).bind fun (x_18,x_19) =>
  some ((⟨at_2,([]:List UInt8),x_18⟩:Word),x_19))
def yz.ann:Ann:=(.two .no (.two .no (.two .no (.two (.loop [7,14,15,16,17,18,19,20,21,22,23,24,25,26,27,28,29,30,31,32,33,34,35,36,37] [] [.slot 7 .i64 none] [(.exit 0,[.slot 7 .i64 none])] .no) .no))))
set_option maxRecDepth 100000 in
theorem yz.fn:FnT Tryz.prog 104 [.d .str,.d .i64] [.Word,.i64] yz :=
 FnT.of (X:=ctx 0 [zU.spec,zh.spec]) Tryz.mixed yz.ann Tryz.func104 rfl (by kernel_rfl) (zue rfl) (fun x=>by kernel_rfl)
end Go.Proofs.YtjcbpfhlgebgdaaGreatDoor
