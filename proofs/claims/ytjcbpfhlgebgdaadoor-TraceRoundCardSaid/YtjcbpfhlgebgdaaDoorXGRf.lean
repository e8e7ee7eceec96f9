import Derived.Test.YtjcbpfhlgebgdaaDoorXGWo
import Derived.Test.YtjcbpfhlgebgdaaDoorX9
import Derived.Test.YtjcbpfhlgebgdaaDoorChecked
import Derived.KernelRfl
set_option linter.unusedSimpArgs false
set_option linter.unusedVariables false
namespace Go.Proofs.YtjcbpfhlgebgdaaDoor
open Go.X Go.Eng
noncomputable def packhorseref03_Name:List UInt8→Option Bool :=
 fun s_1 =>
 (iter (σ:=Int) (ρ:=(Bool) ⊕ (Unit)) (fun i_2 =>
  br (decide (i_2 < (s_1.length:Int)))
   ((idxS s_1 i_2).bind fun x_3 =>
   br (decide ((97:Int) ≤ x_3))
    ((idxS s_1 i_2).bind fun x_4 =>
    br (!(decide (x_4 ≤ (122:Int))))
     (br (i_2 == (0:Int))
      (some (.done (.inl false)))
      ((idxS s_1 i_2).bind fun x_5 =>
      br (decide (x_5 < (48:Int)))
             ((idxS s_1 i_2).bind fun x_6 =>
             br (x_6 != (45:Int))
              (some (.done (.inl false)))
              ((addI .i64 i_2 (1:Int)).bind fun x_7 =>
              some (.next x_7)))
             ((idxS s_1 i_2).bind fun x_8 =>
             br (decide ((57:Int) < x_8))
              ((idxS s_1 i_2).bind fun x_9 =>
              br (x_9 != (45:Int))
               (some (.done (.inl false)))
               ((addI .i64 i_2 (1:Int)).bind fun x_10 =>
               some (.next x_10)))
              ((addI .i64 i_2 (1:Int)).bind fun x_11 =>
              some (.next x_11)))))
     ((addI .i64 i_2 (1:Int)).bind fun x_12 =>
     some (.next x_12)))
    (br (i_2 == (0:Int))
     (some (.done (.inl false)))
     ((idxS s_1 i_2).bind fun x_13 =>
     br (decide (x_13 < (48:Int)))
      ((idxS s_1 i_2).bind fun x_14 =>
      br (x_14 != (45:Int))
             (some (.done (.inl false)))
             ((addI .i64 i_2 (1:Int)).bind fun x_15 =>
             some (.next x_15)))
      ((idxS s_1 i_2).bind fun x_16 =>
      br (decide ((57:Int) < x_16))
             ((idxS s_1 i_2).bind fun x_17 =>
             br (x_17 != (45:Int))
              (some (.done (.inl false)))
              ((addI .i64 i_2 (1:Int)).bind fun x_18 =>
              some (.next x_18)))
             ((addI .i64 i_2 (1:Int)).bind fun x_19 =>
             some (.next x_19))))))
   (some (.done (.inr ())))) (0:Int)).bind fun x_21 =>
 Sum.elim
  (fun x_20 =>
  some x_20)
  (fun _ =>
  br (!(s_1 == ([]:List UInt8)))
   (some (decide ((s_1.length:Int) ≤ (20:Int))))
   (some false)) x_21
noncomputable def packhorseref03_hex:Int→Option Int :=
 fun c_1 =>
 br (decide ((48:Int) ≤ c_1))
  (br (decide (c_1 ≤ (57:Int)))
   ((subI .u8 c_1 (48:Int)).bind fun x_2 =>
   some (Go.IntKind.wrap .i64 x_2))
   (br (decide ((97:Int) ≤ c_1))
    (br (decide (c_1 ≤ (102:Int)))
     ((subI .u8 c_1 (97:Int)).bind fun x_3 =>
     (addI .i64 (Go.IntKind.wrap .i64 x_3) (10:Int)).bind fun x_4 =>
     some x_4)
     (some (-1:Int)))
    (some (-1:Int))))
  (br (decide ((97:Int) ≤ c_1))
   (br (decide (c_1 ≤ (102:Int)))
    ((subI .u8 c_1 (97:Int)).bind fun x_5 =>
    (addI .i64 (Go.IntKind.wrap .i64 x_5) (10:Int)).bind fun x_6 =>
    some x_6)
    (some (-1:Int)))
   (some (-1:Int)))
noncomputable def packhorseref03_piece:((List UInt8) × Int)→Option (Int × Int) :=
 fun (s_1,at_2) =>
 br (decide ((s_1.length:Int) ≤ at_2))
  (some ((0:Int),(0:Int)))
  ((idxS s_1 at_2).bind fun x_3 =>
  br (decide (x_3 < (32:Int)))
   (some ((0:Int),(0:Int)))
   ((idxS s_1 at_2).bind fun x_4 =>
   br (decide ((126:Int) < x_4))
    (some ((0:Int),(0:Int)))
    ((idxS s_1 at_2).bind fun x_5 =>
    br (x_5 == (34:Int))
     (some ((0:Int),(0:Int)))
     ((idxS s_1 at_2).bind fun x_6 =>
     br (x_6 != (92:Int))
      ((idxS s_1 at_2).bind fun x_7 =>
      some (x_7,(1:Int)))
      ((addI .i64 at_2 (1:Int)).bind fun x_8 =>
      br (decide ((s_1.length:Int) ≤ x_8))
       (some ((0:Int),(0:Int)))
       ((addI .i64 at_2 (1:Int)).bind fun x_9 =>
       (idxS s_1 x_9).bind fun x_10 =>
       br (x_10 == (34:Int))
        ((addI .i64 at_2 (1:Int)).bind fun x_11 =>
        (idxS s_1 x_11).bind fun x_12 =>
        some (x_12,(2:Int)))
        (br (x_10 == (92:Int))
         ((addI .i64 at_2 (1:Int)).bind fun x_13 =>
         (idxS s_1 x_13).bind fun x_14 =>
         some (x_14,(2:Int)))
         (br (x_10 == (110:Int))
          (some ((10:Int),(2:Int)))
          (br (x_10 == (120:Int))
           ((addI .i64 at_2 (3:Int)).bind fun x_15 =>
           br (decide (x_15 < (s_1.length:Int)))
            ((addI .i64 at_2 (2:Int)).bind fun x_16 =>
            (idxS s_1 x_16).bind fun x_17 =>
            (packhorseref03_hex x_17).bind fun x_18 =>
            br (decide ((0:Int) ≤ x_18))
             ((addI .i64 at_2 (3:Int)).bind fun x_19 =>
             (idxS s_1 x_19).bind fun x_20 =>
             (packhorseref03_hex x_20).bind fun x_21 =>
             br (decide ((0:Int) ≤ x_21))
              ((addI .i64 at_2 (2:Int)).bind fun x_22 =>
              (idxS s_1 x_22).bind fun x_23 =>
              (packhorseref03_hex x_23).bind fun x_24 =>
              (mulI .i64 (16:Int) x_24).bind fun x_25 =>
              (addI .i64 at_2 (3:Int)).bind fun x_26 =>
              (idxS s_1 x_26).bind fun x_27 =>
              (packhorseref03_hex x_27).bind fun x_28 =>
              (addI .i64 x_25 x_28).bind fun x_29 =>
              some (Go.IntKind.wrap .u8 x_29,(4:Int)))
              (some ((0:Int),(0:Int))))
             (some ((0:Int),(0:Int))))
            (some ((0:Int),(0:Int))))
           (some ((0:Int),(0:Int))))))))))))
noncomputable def packhorseref03_quoted:((List UInt8) × Int)→Option ((List UInt8) × Int) :=
 fun (s_1,at_2) =>
 br (decide ((s_1.length:Int) ≤ at_2))
  (some (([]:List UInt8),(-1:Int)))
  ((idxS s_1 at_2).bind fun x_3 =>
  br (x_3 != (34:Int))
   (some (([]:List UInt8),(-1:Int)))
   ((addI .i64 at_2 (1:Int)).bind fun x_4 =>
   (iter (σ:=Int × (List Int)) (ρ:=Int × (List Int)) (fun (at_5,out_6) =>
    (packhorseref03_piece (s_1,at_5)).bind fun (x_7,x_8) =>
    br (x_8 == (0:Int))
     (some (.done (at_5,out_6)))
     ((app 1 out_6 ([x_7]:List Int)).bind fun x_9 =>
     (addI .i64 at_5 x_8).bind fun x_10 =>
     some (.next (x_10,x_9)))) (x_4,([]:List Int))).bind fun (at_11,out_12) =>
   br (decide ((s_1.length:Int) ≤ at_11))
    (some (([]:List UInt8),(-1:Int)))
    ((idxS s_1 at_11).bind fun x_13 =>
    br (x_13 != (34:Int))
     (some (([]:List UInt8),(-1:Int)))
     ((toBytes out_12).bind fun x_14 =>
     (addI .i64 at_11 (1:Int)).bind fun x_15 =>
     some (x_14,x_15)))))
noncomputable def packhorseref03_open:Int→Option Bool :=
 fun c_1 =>
 br (decide ((33:Int) ≤ c_1))
  (br (decide (c_1 ≤ (126:Int)))
   (br (c_1 != (34:Int))
    (br (c_1 != (61:Int))
     (some (c_1 != (92:Int)))
     (some false))
    (some false))
   (some false))
  (some false)
noncomputable def packhorseref03_plain:List UInt8→Option Bool :=
 fun s_1 =>
 (iter (σ:=Int) (ρ:=(Bool) ⊕ (Unit)) (fun i_2 =>
  br (decide (i_2 < (s_1.length:Int)))
   ((idxS s_1 i_2).bind fun x_3 =>
   (packhorseref03_open x_3).bind fun x_4 =>
   br (!x_4)
    (some (.done (.inl false)))
    ((addI .i64 i_2 (1:Int)).bind fun x_5 =>
    some (.next x_5)))
   (some (.done (.inr ())))) (0:Int)).bind fun x_8 =>
 Sum.elim
  (fun x_6 =>
  some x_6)
  (fun _ =>
  br (!(s_1 == ([]:List UInt8)))
   ((idxS s_1 (0:Int)).bind fun x_7 =>
   some (x_7 != (35:Int)))
   (some false)) x_8
noncomputable def packhorseref03_body:((List UInt8) × Int)→Option ((List UInt8) × Int) :=
 fun (s_1,at_2) =>
 br (decide (at_2 < (s_1.length:Int)))
  ((idxS s_1 at_2).bind fun x_3 =>
  br (x_3 == (34:Int))
   ((packhorseref03_quoted (s_1,at_2)).bind fun (x_4,x_5) =>
   br (decide (x_5 < (0:Int)))
    (some (([]:List UInt8),(-1:Int)))
    (br (decide (x_5 < (s_1.length:Int)))
     ((idxS s_1 x_5).bind fun x_6 =>
     br (x_6 != (32:Int))
      (some (([]:List UInt8),(-1:Int)))
      (some (x_4,x_5)))
     (some (x_4,x_5))))
   ((iter (σ:=Int) (ρ:=Int) (fun end_7 =>
    br (decide (end_7 < (s_1.length:Int)))
     ((idxS s_1 end_7).bind fun x_8 =>
     br (x_8 != (32:Int))
      ((addI .i64 end_7 (1:Int)).bind fun x_9 =>
      some (.next x_9))
      (some (.done end_7)))
     (some (.done end_7))) at_2).bind fun end_10 =>
   (slc s_1 at_2 end_10).bind fun x_11 =>
   (packhorseref03_plain x_11).bind fun x_12 =>
   br (!x_12)
    (some (([]:List UInt8),(-1:Int)))
    ((slc s_1 at_2 end_10).bind fun x_13 =>
    some (x_13,end_10))))
  ((iter (σ:=Int) (ρ:=Int) (fun end_14 =>
   br (decide (end_14 < (s_1.length:Int)))
    ((idxS s_1 end_14).bind fun x_15 =>
    br (x_15 != (32:Int))
     ((addI .i64 end_14 (1:Int)).bind fun x_16 =>
     some (.next x_16))
     (some (.done end_14)))
    (some (.done end_14))) at_2).bind fun end_17 =>
  (slc s_1 at_2 end_17).bind fun x_18 =>
  (packhorseref03_plain x_18).bind fun x_19 =>
  br (!x_19)
   (some (([]:List UInt8),(-1:Int)))
   ((slc s_1 at_2 end_17).bind fun x_20 =>
   some (x_20,end_17)))
noncomputable def packhorseref03_word:((List UInt8) × Int)→Option (Word × Int) :=
 fun (line_1,at_2) =>
 (iter (σ:=Int) (ρ:=Int) (fun end_3 =>
  br (decide (end_3 < (line_1.length:Int)))
   ((idxS line_1 end_3).bind fun x_4 =>
   br (x_4 != (32:Int))
    ((idxS line_1 end_3).bind fun x_5 =>
    br (x_5 != (61:Int))
     ((idxS line_1 end_3).bind fun x_6 =>
     br (x_6 != (34:Int))
      ((addI .i64 end_3 (1:Int)).bind fun x_7 =>
      some (.next x_7))
      (some (.done end_3)))
     (some (.done end_3)))
    (some (.done end_3)))
   (some (.done end_3))) at_2).bind fun end_8 =>
 br (decide (end_8 < (line_1.length:Int)))
  ((idxS line_1 end_8).bind fun x_9 =>
  br (x_9 == (61:Int))
   ((slc line_1 at_2 end_8).bind fun x_10 =>
   (packhorseref03_Name x_10).bind fun x_11 =>
   br (!x_11)
    (some ((⟨at_2,([]:List UInt8),([]:List UInt8)⟩:Word),(-1:Int)))
    ((slc line_1 at_2 end_8).bind fun x_12 =>
    (addI .i64 end_8 (1:Int)).bind fun x_13 =>
    (packhorseref03_body (line_1,x_13)).bind fun (x_14,x_15) =>
    some ((⟨at_2,x_12,x_14⟩:Word),x_15)))
   ((packhorseref03_body (line_1,at_2)).bind fun (x_16,x_17) =>
   some ((⟨at_2,([]:List UInt8),x_16⟩:Word),x_17)))
  ((packhorseref03_body (line_1,at_2)).bind fun (x_18,x_19) =>
  some ((⟨at_2,([]:List UInt8),x_18⟩:Word),x_19))
end Go.Proofs.YtjcbpfhlgebgdaaDoor
