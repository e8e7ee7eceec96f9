import Derived.Test.YtjcbpfhlgebgdaaDoorXGPa
import Derived.Test.YtjcbpfhlgebgdaaDoorXLi
import Derived.Test.YtjcbpfhlgebgdaaDoorXKE
import Derived.Test.YtjcbpfhlgebgdaaDoorX9
import Derived.Test.YtjcbpfhlgebgdaaDoorChecked
import Derived.KernelRfl
set_option linter.unusedSimpArgs false
set_option linter.unusedVariables false
namespace Go.Proofs.YtjcbpfhlgebgdaaDoor
open Go.X Go.Eng
noncomputable def packhorseref05_Check:EID→Option Int :=
 fun e_1 =>
 br (decide (e_1.Low < (1:Int)))
  (some (2:Int))
  (br (decide (e_1.High < e_1.Low))
   (some (2:Int))
   (br (decide ((16:Int) < e_1.High))
    (some (2:Int))
    (br (decide (e_1.Service < (-1:Int)))
     (some (2:Int))
     (br (decide ((999:Int) < e_1.Service))
      (some (2:Int))
      (some (0:Int))))))
def packhorseref05_Check.ann:Ann:=.no
set_option maxRecDepth 100000 in
theorem packhorseref05_Check.fn:FnT Tryd.prog 42 [.d .EID] [.i64] packhorseref05_Check :=
 FnT.of (X:=ctx 0 []) Tryd.mixed packhorseref05_Check.ann Tryd.func42 rfl (by kernel_rfl) (Nat.le_of_ble_eq_true rfl) (fun x=>by kernel_rfl)
noncomputable def packhorseref05_Check.spec:XSpec Tryd.prog:=XSpec.t 42 [.d .EID] [.i64] packhorseref05_Check (by kernel_rfl) packhorseref05_Check.fn
noncomputable def packhorseref05_digits_f (self_:Int→Option (List UInt8)):Int→Option (List UInt8) :=
 fun n_1 =>
 br (decide (n_1 < (10:Int)))
  ((addI .i64 n_1 (1:Int)).bind fun x_2 =>
  (slc ([48,49,50,51,52,53,54,55,56,57]:List UInt8) n_1 x_2).bind fun x_3 =>
  some x_3)
  ((quoI .i64 n_1 (10:Int)).bind fun x_4 =>
  (self_ x_4).bind fun x_5 =>
  (remI n_1 (10:Int)).bind fun x_6 =>
  (remI n_1 (10:Int)).bind fun x_7 =>
  (addI .i64 x_7 (1:Int)).bind fun x_8 =>
  (slc ([48,49,50,51,52,53,54,55,56,57]:List UInt8) x_6 x_8).bind fun x_9 =>
  (catS x_5 x_9).bind fun x_10 =>
  some x_10)
noncomputable def packhorseref05_digits_n:Nat→Int→Option (List UInt8)
 | 0=>fun _=>none
 | k + 1=>packhorseref05_digits_f (packhorseref05_digits_n k)
noncomputable def packhorseref05_digits:Int→Option (List UInt8):=packhorseref05_digits_n 100
def packhorseref05_digits.ann:Ann:=.no
set_option maxRecDepth 100000 in
theorem packhorseref05_digits_n.step (k:Nat) (ih:FnT Tryd.prog 102 [.d .i64] [.str] (packhorseref05_digits_n k)):FnT Tryd.prog 102 [.d .i64] [.str] (packhorseref05_digits_n (k + 1)) :=
 FnT.of (X:=ctx 0 [XSpec.t 102 [.d .i64] [.str] (packhorseref05_digits_n k) (by kernel_rfl) ih]) Tryd.mixed packhorseref05_digits.ann Tryd.func102 rfl (by kernel_rfl) (Nat.le_of_ble_eq_true rfl) (fun x=>by kernel_rfl)
theorem packhorseref05_digits_n.fn:∀ k,FnT Tryd.prog 102 [.d .i64] [.str] (packhorseref05_digits_n k)
 | 0=>fun x r h=>by cases h
 | k + 1=>packhorseref05_digits_n.step k (packhorseref05_digits_n.fn k)
theorem packhorseref05_digits.fn:FnT Tryd.prog 102 [.d .i64] [.str] packhorseref05_digits:=packhorseref05_digits_n.fn 100
noncomputable def packhorseref05_digits.spec:XSpec Tryd.prog:=XSpec.t 102 [.d .i64] [.str] packhorseref05_digits (by kernel_rfl) packhorseref05_digits.fn
noncomputable def packhorseref05_Text:EID→Option ((List UInt8) × Int) :=
 fun e_1 =>
 (packhorseref05_Check e_1).bind fun x_2 =>
 br (x_2 != (0:Int))
  (some (([]:List UInt8),x_2))
  ((packhorseref05_digits e_1.Low).bind fun x_3 =>
  (catS ([110]:List UInt8) x_3).bind fun x_4 =>
  br (e_1.Low == (1:Int))
   (br (e_1.High == (16:Int))
    (br (decide (e_1.Service < (0:Int)))
     ((catS ([110,42]:List UInt8) ([46,42]:List UInt8)).bind fun x_5 =>
     some (x_5,(0:Int)))
     (br (decide ((0:Int) < e_1.Service))
      ((catS ([110,42]:List UInt8) ([46]:List UInt8)).bind fun x_6 =>
      (packhorseref05_digits e_1.Service).bind fun x_7 =>
      (catS x_6 x_7).bind fun x_8 =>
      some (x_8,(0:Int)))
      (some (([110,42]:List UInt8),(0:Int)))))
    (br (decide (e_1.Low < e_1.High))
     ((catS x_4 ([45]:List UInt8)).bind fun x_9 =>
     (packhorseref05_digits e_1.High).bind fun x_10 =>
     (catS x_9 x_10).bind fun x_11 =>
     br (decide (e_1.Service < (0:Int)))
      ((catS x_11 ([46,42]:List UInt8)).bind fun x_12 =>
      some (x_12,(0:Int)))
      (br (decide ((0:Int) < e_1.Service))
       ((catS x_11 ([46]:List UInt8)).bind fun x_13 =>
       (packhorseref05_digits e_1.Service).bind fun x_14 =>
       (catS x_13 x_14).bind fun x_15 =>
       some (x_15,(0:Int)))
       (some (x_11,(0:Int)))))
     (br (decide (e_1.Service < (0:Int)))
      ((catS x_4 ([46,42]:List UInt8)).bind fun x_16 =>
      some (x_16,(0:Int)))
      (br (decide ((0:Int) < e_1.Service))
       ((catS x_4 ([46]:List UInt8)).bind fun x_17 =>
       (packhorseref05_digits e_1.Service).bind fun x_18 =>
       (catS x_17 x_18).bind fun x_19 =>
       some (x_19,(0:Int)))
       (some (x_4,(0:Int)))))))
   (br (decide (e_1.Low < e_1.High))
    ((catS x_4 ([45]:List UInt8)).bind fun x_20 =>
    (packhorseref05_digits e_1.High).bind fun x_21 =>
    (catS x_20 x_21).bind fun x_22 =>
    br (decide (e_1.Service < (0:Int)))
     ((catS x_22 ([46,42]:List UInt8)).bind fun x_23 =>
     some (x_23,(0:Int)))
     (br (decide ((0:Int) < e_1.Service))
      ((catS x_22 ([46]:List UInt8)).bind fun x_24 =>
      (packhorseref05_digits e_1.Service).bind fun x_25 =>
      (catS x_24 x_25).bind fun x_26 =>
      some (x_26,(0:Int)))
      (some (x_22,(0:Int)))))
    (br (decide (e_1.Service < (0:Int)))
     ((catS x_4 ([46,42]:List UInt8)).bind fun x_27 =>
     some (x_27,(0:Int)))
     (br (decide ((0:Int) < e_1.Service))
      ((catS x_4 ([46]:List UInt8)).bind fun x_28 =>
      (packhorseref05_digits e_1.Service).bind fun x_29 =>
      (catS x_28 x_29).bind fun x_30 =>
      some (x_30,(0:Int)))
      (some (x_4,(0:Int)))))))
def packhorseref05_Text.ann:Ann:=.no
set_option maxRecDepth 100000 in
theorem packhorseref05_Text.fn:FnT Tryd.prog 44 [.d .EID] [.str,.i64] packhorseref05_Text :=
 FnT.of (X:=ctx 0 [packhorseref05_Check.spec,packhorseref05_digits.spec]) Tryd.mixed packhorseref05_Text.ann Tryd.func44 rfl (by kernel_rfl) (Nat.le_of_ble_eq_true rfl) (fun x=>by kernel_rfl)
noncomputable def packhorseref05_Text.spec:XSpec Tryd.prog:=XSpec.t 44 [.d .EID] [.str,.i64] packhorseref05_Text (by kernel_rfl) packhorseref05_Text.fn
noncomputable def packhorseref05_cut:((List UInt8) × Int)→Option ((List UInt8) × (List UInt8) × Bool) :=
 fun (s_1,c_2) =>
 (iter (σ:=Int) (ρ:=((List UInt8) × (List UInt8) × Bool) ⊕ (Unit)) (fun i_3 =>
  br (decide (i_3 < (s_1.length:Int)))
   ((idxS s_1 i_3).bind fun x_4 =>
   br (x_4 == c_2)
    ((slc s_1 (0:Int) i_3).bind fun x_5 =>
    (addI .i64 i_3 (1:Int)).bind fun x_6 =>
    (slc s_1 x_6 (s_1.length:Int)).bind fun x_7 =>
    some (.done (.inl (x_5,x_7,true))))
    ((addI .i64 i_3 (1:Int)).bind fun x_8 =>
    some (.next x_8)))
   (some (.done (.inr ())))) (0:Int)).bind fun x_12 =>
 Sum.elim
  (fun (x_9,x_10,x_11) =>
  some (x_9,x_10,x_11))
  (fun _ =>
  some (s_1,([]:List UInt8),false)) x_12
def packhorseref05_cut.ann:Ann:=(.two .no (.two (.two .no (.loop [4,5,6,7,8,9,10,11,12,13,14,15,16,17,18,19,20,21,22,23,24,25] [] [.slot 7 .i64 none] [(.ret,[.slot 4 .str none,.slot 5 .str none,.slot 6 .bool none]),(.exit 0,[])] .no)) .no))
set_option maxRecDepth 100000 in
theorem packhorseref05_cut.fn:FnT Tryd.prog 106 [.d .str,.d .u8] [.str,.str,.bool] packhorseref05_cut :=
 FnT.of (X:=ctx 0 []) Tryd.mixed packhorseref05_cut.ann Tryd.func106 rfl (by kernel_rfl) (Nat.le_of_ble_eq_true rfl) (fun x=>by kernel_rfl)
noncomputable def packhorseref05_cut.spec:XSpec Tryd.prog:=XSpec.t 106 [.d .str,.d .u8] [.str,.str,.bool] packhorseref05_cut (by kernel_rfl) packhorseref05_cut.fn
noncomputable def packhorseref03_Number:List UInt8→Option (Int × Bool) :=
 fun s_1 =>
 br (s_1 == ([]:List UInt8))
  (some ((0:Int),false))
  ((idxS s_1 (0:Int)).bind fun x_2 =>
  br (x_2 == (48:Int))
   (br (decide ((1:Int) < (s_1.length:Int)))
    (some ((0:Int),false))
    ((iter (σ:=Int × Int) (ρ:=(Int × Bool) ⊕ (Int)) (fun (n_3,i_4) =>
     br (decide (i_4 < (s_1.length:Int)))
      ((idxS s_1 i_4).bind fun x_5 =>
      br (decide (x_5 < (48:Int)))
       (some (.done (.inl ((0:Int),false))))
       ((idxS s_1 i_4).bind fun x_6 =>
       br (decide ((57:Int) < x_6))
        (some (.done (.inl ((0:Int),false))))
        ((mulI .u64 (10:Int) n_3).bind fun x_7 =>
        (idxS s_1 i_4).bind fun x_8 =>
        (subI .u8 x_8 (48:Int)).bind fun x_9 =>
        (addI .u64 x_7 (Go.IntKind.wrap .u64 x_9)).bind fun x_10 =>
        br (decide ((1125899906842624:Int) < x_10))
         (some (.done (.inl ((0:Int),false))))
         ((addI .i64 i_4 (1:Int)).bind fun x_11 =>
         some (.next (x_10,x_11))))))
      (some (.done (.inr n_3)))) ((0:Int),(0:Int))).bind fun x_15 =>
    Sum.elim
     (fun (x_12,x_13) =>
     some (x_12,x_13))
     (fun n_14 =>
     some (n_14,true)) x_15))
   ((iter (σ:=Int × Int) (ρ:=(Int × Bool) ⊕ (Int)) (fun (n_16,i_17) =>
    br (decide (i_17 < (s_1.length:Int)))
     ((idxS s_1 i_17).bind fun x_18 =>
     br (decide (x_18 < (48:Int)))
      (some (.done (.inl ((0:Int),false))))
      ((idxS s_1 i_17).bind fun x_19 =>
      br (decide ((57:Int) < x_19))
       (some (.done (.inl ((0:Int),false))))
       ((mulI .u64 (10:Int) n_16).bind fun x_20 =>
       (idxS s_1 i_17).bind fun x_21 =>
       (subI .u8 x_21 (48:Int)).bind fun x_22 =>
       (addI .u64 x_20 (Go.IntKind.wrap .u64 x_22)).bind fun x_23 =>
       br (decide ((1125899906842624:Int) < x_23))
        (some (.done (.inl ((0:Int),false))))
        ((addI .i64 i_17 (1:Int)).bind fun x_24 =>
        some (.next (x_23,x_24))))))
     (some (.done (.inr n_16)))) ((0:Int),(0:Int))).bind fun x_28 =>
   Sum.elim
    (fun (x_25,x_26) =>
    some (x_25,x_26))
    (fun n_27 =>
    some (n_27,true)) x_28))
def packhorseref03_Number.ann:Ann:=(.two .no (.two .no (.two .no (.two (.two .no (.loop [2,3,4,5,18,19,20,21,22,23,24,25,26,27,28,29,30,31,32,33,34,35,36,37,38,39,40,41,42,43] [] [.slot 4 .u64 none,.slot 5 .i64 none] [(.ret,[.slot 2 .u64 none,.slot 3 .bool none]),(.exit 0,[.slot 4 .u64 none])] .no)) .no))))
set_option maxRecDepth 100000 in
theorem packhorseref03_Number.fn:FnT Tryd.prog 124 [.d .str] [.u64,.bool] packhorseref03_Number :=
 FnT.of (X:=ctx 0 []) Tryd.mixed packhorseref03_Number.ann Tryd.func124 rfl (by kernel_rfl) (Nat.le_of_ble_eq_true rfl) (fun x=>by kernel_rfl)
noncomputable def packhorseref03_Number.spec:XSpec Tryd.prog:=XSpec.t 124 [.d .str] [.u64,.bool] packhorseref03_Number (by kernel_rfl) packhorseref03_Number.fn
noncomputable def packhorseref05_number:List UInt8→Option (Int × Bool) :=
 fun s_1 =>
 (packhorseref03_Number s_1).bind fun (x_2,x_3) =>
 br (decide ((1000:Int) < x_2))
  (some (Go.IntKind.wrap .i64 (1000:Int),x_3))
  (some (Go.IntKind.wrap .i64 x_2,x_3))
def packhorseref05_number.ann:Ann:=.no
set_option maxRecDepth 100000 in
theorem packhorseref05_number.fn:FnT Tryd.prog 107 [.d .str] [.i64,.bool] packhorseref05_number :=
 FnT.of (X:=ctx 0 [packhorseref03_Number.spec]) Tryd.mixed packhorseref05_number.ann Tryd.func107 rfl (by kernel_rfl) (Nat.le_of_ble_eq_true rfl) (fun x=>by kernel_rfl)
noncomputable def packhorseref05_number.spec:XSpec Tryd.prog:=XSpec.t 107 [.d .str] [.i64,.bool] packhorseref05_number (by kernel_rfl) packhorseref05_number.fn
noncomputable def packhorseref05_Parse:List UInt8→Option (EID × Int) :=
 fun s_1 =>
 br (s_1 == ([]:List UInt8))
  (some ((⟨(0:Int),(0:Int),(0:Int)⟩:EID),(3:Int)))
  ((idxS s_1 (0:Int)).bind fun x_2 =>
  br (x_2 != (110:Int))
   (some ((⟨(0:Int),(0:Int),(0:Int)⟩:EID),(3:Int)))
   ((slc s_1 (1:Int) (s_1.length:Int)).bind fun x_3 =>
   (packhorseref05_cut (x_3,(46:Int))).bind fun (x_4,x_5,x_6) =>
   br (!(x_4 == ([42]:List UInt8)))
    ((packhorseref05_cut (x_4,(45:Int))).bind fun (x_7,x_8,x_9) =>
    (packhorseref05_number x_7).bind fun (x_10,x_11) =>
    br x_9
     ((packhorseref05_number x_8).bind fun (x_12,x_13) =>
     br x_11
      (br x_6
       (br (x_5 == ([42]:List UInt8))
        (br (!x_13)
         (some ((⟨(0:Int),(0:Int),(0:Int)⟩:EID),(3:Int)))
         ((packhorseref05_Check (⟨x_10,x_12,(-1:Int)⟩:EID)).bind fun x_14 =>
         br (x_14 != (0:Int))
          (some ((⟨(0:Int),(0:Int),(0:Int)⟩:EID),x_14))
          (some ((⟨x_10,x_12,(-1:Int)⟩:EID),(0:Int)))))
        (br x_6
         ((packhorseref05_number x_5).bind fun (x_15,x_16) =>
         br x_13
          (br (!x_16)
           (some ((⟨(0:Int),(0:Int),(0:Int)⟩:EID),(3:Int)))
           ((packhorseref05_Check (⟨x_10,x_12,x_15⟩:EID)).bind fun x_17 =>
           br (x_17 != (0:Int))
            (some ((⟨(0:Int),(0:Int),(0:Int)⟩:EID),x_17))
            (some ((⟨x_10,x_12,x_15⟩:EID),(0:Int)))))
          (some ((⟨(0:Int),(0:Int),(0:Int)⟩:EID),(3:Int))))
         (br (!x_13)
          (some ((⟨(0:Int),(0:Int),(0:Int)⟩:EID),(3:Int)))
          ((packhorseref05_Check (⟨x_10,x_12,(0:Int)⟩:EID)).bind fun x_18 =>
          br (x_18 != (0:Int))
           (some ((⟨(0:Int),(0:Int),(0:Int)⟩:EID),x_18))
           (some ((⟨x_10,x_12,(0:Int)⟩:EID),(0:Int)))))))
       (br x_6
        ((packhorseref05_number x_5).bind fun (x_19,x_20) =>
        br x_13
         (br (!x_20)
          (some ((⟨(0:Int),(0:Int),(0:Int)⟩:EID),(3:Int)))
          ((packhorseref05_Check (⟨x_10,x_12,x_19⟩:EID)).bind fun x_21 =>
          br (x_21 != (0:Int))
           (some ((⟨(0:Int),(0:Int),(0:Int)⟩:EID),x_21))
           (some ((⟨x_10,x_12,x_19⟩:EID),(0:Int)))))
         (some ((⟨(0:Int),(0:Int),(0:Int)⟩:EID),(3:Int))))
        (br (!x_13)
         (some ((⟨(0:Int),(0:Int),(0:Int)⟩:EID),(3:Int)))
         ((packhorseref05_Check (⟨x_10,x_12,(0:Int)⟩:EID)).bind fun x_22 =>
         br (x_22 != (0:Int))
          (some ((⟨(0:Int),(0:Int),(0:Int)⟩:EID),x_22))
          (some ((⟨x_10,x_12,(0:Int)⟩:EID),(0:Int)))))))
      (br x_6
       (br (x_5 == ([42]:List UInt8))
        (some ((⟨(0:Int),(0:Int),(0:Int)⟩:EID),(3:Int)))
        (br x_6
         ((packhorseref05_number x_5).bind fun (x_23,x_24) =>
         some ((⟨(0:Int),(0:Int),(0:Int)⟩:EID),(3:Int)))
         (some ((⟨(0:Int),(0:Int),(0:Int)⟩:EID),(3:Int)))))
       (br x_6
        ((packhorseref05_number x_5).bind fun (x_25,x_26) =>
        some ((⟨(0:Int),(0:Int),(0:Int)⟩:EID),(3:Int)))
        (some ((⟨(0:Int),(0:Int),(0:Int)⟩:EID),(3:Int))))))
     (br x_6
      (br (x_5 == ([42]:List UInt8))
       (br (!x_11)
        (some ((⟨(0:Int),(0:Int),(0:Int)⟩:EID),(3:Int)))
        ((packhorseref05_Check (⟨x_10,x_10,(-1:Int)⟩:EID)).bind fun x_27 =>
        br (x_27 != (0:Int))
         (some ((⟨(0:Int),(0:Int),(0:Int)⟩:EID),x_27))
         (some ((⟨x_10,x_10,(-1:Int)⟩:EID),(0:Int)))))
       (br x_6
        ((packhorseref05_number x_5).bind fun (x_28,x_29) =>
        br x_11
         (br (!x_29)
          (some ((⟨(0:Int),(0:Int),(0:Int)⟩:EID),(3:Int)))
          ((packhorseref05_Check (⟨x_10,x_10,x_28⟩:EID)).bind fun x_30 =>
          br (x_30 != (0:Int))
           (some ((⟨(0:Int),(0:Int),(0:Int)⟩:EID),x_30))
           (some ((⟨x_10,x_10,x_28⟩:EID),(0:Int)))))
         (some ((⟨(0:Int),(0:Int),(0:Int)⟩:EID),(3:Int))))
        (br (!x_11)
         (some ((⟨(0:Int),(0:Int),(0:Int)⟩:EID),(3:Int)))
         ((packhorseref05_Check (⟨x_10,x_10,(0:Int)⟩:EID)).bind fun x_31 =>
         br (x_31 != (0:Int))
          (some ((⟨(0:Int),(0:Int),(0:Int)⟩:EID),x_31))
          (some ((⟨x_10,x_10,(0:Int)⟩:EID),(0:Int)))))))
      (br x_6
       ((packhorseref05_number x_5).bind fun (x_32,x_33) =>
       br x_11
        (br (!x_33)
         (some ((⟨(0:Int),(0:Int),(0:Int)⟩:EID),(3:Int)))
         ((packhorseref05_Check (⟨x_10,x_10,x_32⟩:EID)).bind fun x_34 =>
         br (x_34 != (0:Int))
          (some ((⟨(0:Int),(0:Int),(0:Int)⟩:EID),x_34))
          (some ((⟨x_10,x_10,x_32⟩:EID),(0:Int)))))
        (some ((⟨(0:Int),(0:Int),(0:Int)⟩:EID),(3:Int))))
       (br (!x_11)
        (some ((⟨(0:Int),(0:Int),(0:Int)⟩:EID),(3:Int)))
        ((packhorseref05_Check (⟨x_10,x_10,(0:Int)⟩:EID)).bind fun x_35 =>
        br (x_35 != (0:Int))
         (some ((⟨(0:Int),(0:Int),(0:Int)⟩:EID),x_35))
         (some ((⟨x_10,x_10,(0:Int)⟩:EID),(0:Int))))))))
    (br x_6
     (br (x_5 == ([42]:List UInt8))
      ((packhorseref05_Check (⟨(1:Int),(16:Int),(-1:Int)⟩:EID)).bind fun x_36 =>
      br (x_36 != (0:Int))
       (some ((⟨(0:Int),(0:Int),(0:Int)⟩:EID),x_36))
       (some ((⟨(1:Int),(16:Int),(-1:Int)⟩:EID),(0:Int))))
      (br x_6
       ((packhorseref05_number x_5).bind fun (x_37,x_38) =>
       br (!x_38)
        (some ((⟨(0:Int),(0:Int),(0:Int)⟩:EID),(3:Int)))
        ((packhorseref05_Check (⟨(1:Int),(16:Int),x_37⟩:EID)).bind fun x_39 =>
        br (x_39 != (0:Int))
         (some ((⟨(0:Int),(0:Int),(0:Int)⟩:EID),x_39))
         (some ((⟨(1:Int),(16:Int),x_37⟩:EID),(0:Int)))))
       ((packhorseref05_Check (⟨(1:Int),(16:Int),(0:Int)⟩:EID)).bind fun x_40 =>
       br (x_40 != (0:Int))
        (some ((⟨(0:Int),(0:Int),(0:Int)⟩:EID),x_40))
        (some ((⟨(1:Int),(16:Int),(0:Int)⟩:EID),(0:Int))))))
     (br x_6
      ((packhorseref05_number x_5).bind fun (x_41,x_42) =>
      br (!x_42)
       (some ((⟨(0:Int),(0:Int),(0:Int)⟩:EID),(3:Int)))
       ((packhorseref05_Check (⟨(1:Int),(16:Int),x_41⟩:EID)).bind fun x_43 =>
       br (x_43 != (0:Int))
        (some ((⟨(0:Int),(0:Int),(0:Int)⟩:EID),x_43))
        (some ((⟨(1:Int),(16:Int),x_41⟩:EID),(0:Int)))))
      ((packhorseref05_Check (⟨(1:Int),(16:Int),(0:Int)⟩:EID)).bind fun x_44 =>
      br (x_44 != (0:Int))
       (some ((⟨(0:Int),(0:Int),(0:Int)⟩:EID),x_44))
       (some ((⟨(1:Int),(16:Int),(0:Int)⟩:EID),(0:Int))))))))
def packhorseref05_Parse.ann:Ann:=.no
set_option maxRecDepth 100000 in
theorem packhorseref05_Parse.fn:FnT Tryd.prog 46 [.d .str] [.EID,.i64] packhorseref05_Parse :=
 FnT.of (X:=ctx 0 [packhorseref05_cut.spec,packhorseref05_number.spec,packhorseref05_Check.spec]) Tryd.mixed packhorseref05_Parse.ann Tryd.func46 rfl (by kernel_rfl) (Nat.le_of_ble_eq_true rfl) (fun x=>by kernel_rfl)
noncomputable def packhorseref05_Parse.spec:XSpec Tryd.prog:=XSpec.t 46 [.d .str] [.EID,.i64] packhorseref05_Parse (by kernel_rfl) packhorseref05_Parse.fn
noncomputable def packhorseref05_List:List UInt8→Option ((List EID) × Fault) :=
 fun s_1 =>
 (iter (σ:=(List EID) × Int × Bool × Fault) (ρ:=((List EID) × Fault) ⊕ ((List EID) × Fault)) (fun (out_2,at_3,more_4,x_5) =>
  br more_4
   (br ((out_2.length:Int) == (20:Int))
    (some (.done (.inl (([]:List EID),(⟨(5:Int),at_3⟩:Fault)))))
    ((slc s_1 at_3 (s_1.length:Int)).bind fun x_6 =>
    (packhorseref05_cut (x_6,(44:Int))).bind fun (x_7,x_8,x_9) =>
    (packhorseref05_Parse x_7).bind fun (x_10,x_11) =>
    br (x_11 != (0:Int))
     (some (.done (.inl (([]:List EID),(⟨x_11,at_3⟩:Fault)))))
     ((app 24 out_2 ([x_10]:List EID)).bind fun x_12 =>
     (addI .i64 at_3 (x_7.length:Int)).bind fun x_13 =>
     (addI .i64 x_13 (1:Int)).bind fun x_14 =>
     some (.next (x_12,x_14,x_9,x_5)))))
   (some (.done (.inr (out_2,x_5))))) (([]:List EID),(0:Int),!(s_1 == ([]:List UInt8)),(⟨(0:Int),(0:Int)⟩:Fault))).bind fun x_19 =>
 Sum.elim
  (fun (x_15,x_16) =>
  some (x_15,x_16))
  (fun (out_17,x_18) =>
  some (out_17,(⟨(0:Int),(0:Int)⟩:Fault))) x_19
def packhorseref05_List.ann:Ann:=(.two .no (.two .no (.two .no (.two (.loop [2,4,5,6,7,8,9,10,11,14,15,16,17,18,19,20,21,22,23,24,25,26,27,28,29,30,31,32,33,34,35,36,37,38,39,40,41,42,43,44,45,46,47] [0] [.slot 4 .l_EID (some (4,69)),.slot 5 .i64 none,.slot 6 .bool none,.box 0 .Fault] [(.ret,[.slot 2 .l_EID (some (2,69)),.box 0 .Fault]),(.exit 0,[.slot 4 .l_EID (some (4,69)),.box 0 .Fault])] .no) .no))))
set_option maxRecDepth 100000 in
theorem packhorseref05_List.fn:FnT Tryd.prog 48 [.d .str] [.l_EID,.Fault] packhorseref05_List :=
 FnT.of (X:=ctx 0 [packhorseref05_cut.spec,packhorseref05_Parse.spec]) Tryd.mixed packhorseref05_List.ann Tryd.func48 rfl (by kernel_rfl) (Nat.le_of_ble_eq_true rfl) (fun x=>by kernel_rfl)
noncomputable def packhorseref05_List.spec:XSpec Tryd.prog:=XSpec.t 48 [.d .str] [.l_EID,.Fault] packhorseref05_List (by kernel_rfl) packhorseref05_List.fn
noncomputable def packhorselaw05_same:((List EID) × (List EID))→Option Bool :=
 fun (a_1,b_2) =>
 br ((a_1.length:Int) != (b_2.length:Int))
  (some false)
  ((iter (σ:=Int) (ρ:=(Bool) ⊕ (Unit)) (fun i_3 =>
   br (decide (i_3 < (a_1.length:Int)))
    ((idx a_1 i_3).bind fun x_4 =>
    (idx b_2 i_3).bind fun x_5 =>
    br (!((x_4.Low == x_5.Low) && ((x_4.High == x_5.High) && (x_4.Service == x_5.Service))))
     (some (.done (.inl false)))
     ((addI .i64 i_3 (1:Int)).bind fun x_6 =>
     some (.next x_6)))
    (some (.done (.inr ())))) (0:Int)).bind fun x_8 =>
  Sum.elim
   (fun x_7 =>
   some x_7)
   (fun _ =>
   some true) x_8)
def packhorselaw05_same.ann:Ann:=(.two .no (.two .no (.two (.two .no (.loop [4,5,11,12,13,14,15,16,17,18,19,20,21,22,23,24,25] [] [.slot 5 .i64 none] [(.ret,[.slot 4 .bool none]),(.exit 0,[])] .no)) .no)))
set_option maxRecDepth 100000 in
theorem packhorselaw05_same.fn:FnT Tryd.prog 49 [.d .l_EID,.d .l_EID] [.bool] packhorselaw05_same :=
 FnT.of (X:=ctx 0 []) Tryd.mixed packhorselaw05_same.ann Tryd.func49 rfl (by kernel_rfl) (Nat.le_of_ble_eq_true rfl) (fun x=>by kernel_rfl)
noncomputable def packhorselaw05_same.spec:XSpec Tryd.prog:=XSpec.t 49 [.d .l_EID,.d .l_EID] [.bool] packhorselaw05_same (by kernel_rfl) packhorselaw05_same.fn
noncomputable def packhorselaw05_EidTexts:(EID × (List UInt8) × (List UInt8))→Option Bool :=
 fun (e_1,s_2,list_3) =>
 br (decide ((400:Int) < (s_2.length:Int)))
  ((packhorselaw05_awake ()).bind fun x_4 =>
  some x_4)
  (br (decide ((400:Int) < (list_3.length:Int)))
   ((packhorselaw05_awake ()).bind fun x_5 =>
   some x_5)
   ((eid_Check e_1).bind fun x_6 =>
   (packhorseref05_Check e_1).bind fun x_7 =>
   br (x_6 != x_7)
    (some false)
    ((eid_Text e_1).bind fun (x_8,x_9) =>
    (packhorseref05_Text e_1).bind fun (x_10,x_11) =>
    (eid_Parse s_2).bind fun (x_12,x_13) =>
    (packhorseref05_Parse s_2).bind fun (x_14,x_15) =>
    (eid_List list_3).bind fun (x_16,x_17) =>
    (packhorseref05_List list_3).bind fun (x_18,x_19) =>
    br (x_8 == x_10)
     (br (x_9 == x_11)
      (br ((x_12.Low == x_14.Low) && ((x_12.High == x_14.High) && (x_12.Service == x_14.Service)))
       (br (x_13 == x_15)
        ((packhorselaw05_same (x_16,x_18)).bind fun x_20 =>
        br x_20
         (br ((x_17.Err == x_19.Err) && (x_17.At == x_19.At))
          ((packhorselaw05_awake ()).bind fun x_21 =>
          some x_21)
          (some false))
         (some false))
        (some false))
       (some false))
      (some false))
     (some false))))
def packhorselaw05_EidTexts.ann:Ann:=.no
set_option maxRecDepth 100000 in
theorem packhorselaw05_EidTexts.fn:FnT Tryd.prog 9 [.d .EID,.d .str,.d .str] [.bool] packhorselaw05_EidTexts :=
 FnT.of (X:=ctx 0 [packhorselaw05_awake.spec,eid_Check.spec,packhorseref05_Check.spec,eid_Text.spec,packhorseref05_Text.spec,eid_Parse.spec,packhorseref05_Parse.spec,eid_List.spec,packhorseref05_List.spec,packhorselaw05_same.spec]) Tryd.mixed packhorselaw05_EidTexts.ann Tryd.func9 rfl (by kernel_rfl) (Nat.le_of_ble_eq_true rfl) (fun x=>by kernel_rfl)
noncomputable def packhorselaw05_EidTexts.spec:XSpec Tryd.prog:=XSpec.t 9 [.d .EID,.d .str,.d .str] [.bool] packhorselaw05_EidTexts (by kernel_rfl) packhorselaw05_EidTexts.fn
noncomputable def packhorsekit_Mod:(Int × Int)→Option Int :=
 fun (a_1,n_2) =>
 br (decide (n_2 < (1:Int)))
  (some (0:Int))
  ((remI a_1 n_2).bind fun x_3 =>
  br (decide (x_3 < (0:Int)))
   ((addI .i64 x_3 n_2).bind fun x_4 =>
   some x_4)
   (some x_3))
def packhorsekit_Mod.ann:Ann:=.no
set_option maxRecDepth 100000 in
theorem packhorsekit_Mod.fn:FnT Tryd.prog 25 [.d .i64,.d .i64] [.i64] packhorsekit_Mod :=
 FnT.of (X:=ctx 0 []) Tryd.mixed packhorsekit_Mod.ann Tryd.func25 rfl (by kernel_rfl) (Nat.le_of_ble_eq_true rfl) (fun x=>by kernel_rfl)
noncomputable def packhorsekit_Mod.spec:XSpec Tryd.prog:=XSpec.t 25 [.d .i64,.d .i64] [.i64] packhorsekit_Mod (by kernel_rfl) packhorsekit_Mod.fn
noncomputable def packhorselaw05_ad:(Int × Int × Int)→Option EID :=
 fun (low_1,high_2,service_3) =>
 some (⟨low_1,high_2,service_3⟩:EID)
def packhorselaw05_ad.ann:Ann:=.no
set_option maxRecDepth 100000 in
theorem packhorselaw05_ad.fn:FnT Tryd.prog 99 [.d .i64,.d .i64,.d .i64] [.EID] packhorselaw05_ad :=
 FnT.of (X:=ctx 0 []) Tryd.mixed packhorselaw05_ad.ann Tryd.func99 rfl (by kernel_rfl) (Nat.le_of_ble_eq_true rfl) (fun x=>by kernel_rfl)
noncomputable def packhorselaw05_ad.spec:XSpec Tryd.prog:=XSpec.t 99 [.d .i64,.d .i64,.d .i64] [.EID] packhorselaw05_ad (by kernel_rfl) packhorselaw05_ad.fn
noncomputable def packhorselaw05_made:List Int→Option (List EID) :=
 fun nums_1 =>
 (iter (σ:=(List EID) × Int) (ρ:=List EID) (fun (out_2,i_3) =>
  br (decide (i_3 < (nums_1.length:Int)))
   (br (decide (i_3 < (12:Int)))
    ((idx nums_1 i_3).bind fun x_4 =>
    (packhorsekit_Mod (x_4,(1048576:Int))).bind fun x_5 =>
    (remI x_5 (16:Int)).bind fun x_6 =>
    (addI .i64 (1:Int) x_6).bind fun x_7 =>
    (quoI .i64 x_5 (16:Int)).bind fun x_8 =>
    (remI x_8 (4:Int)).bind fun x_9 =>
    (quoI .i64 x_5 (64:Int)).bind fun x_10 =>
    (remI x_10 (2:Int)).bind fun x_11 =>
    (mulI .i64 x_9 x_11).bind fun x_12 =>
    (addI .i64 x_7 x_12).bind fun x_13 =>
    (quoI .i64 x_5 (128:Int)).bind fun x_14 =>
    (remI x_14 (5:Int)).bind fun x_15 =>
    (subI .i64 x_15 (1:Int)).bind fun x_16 =>
    (packhorselaw05_ad (x_7,min (16:Int) x_13,x_16)).bind fun x_17 =>
    (app 24 out_2 ([x_17]:List EID)).bind fun x_18 =>
    (addI .i64 i_3 (1:Int)).bind fun x_19 =>
    some (.next (x_18,x_19)))
    (some (.done out_2)))
   (some (.done out_2))) (([]:List EID),(0:Int))).bind fun out_20 =>
 some out_20
def packhorselaw05_made.ann:Ann:=(.two .no (.two .no (.two (.two .no (.loop [3,4,5,6,7,8,9,10,11,12,13,14,15,16,17,18,19,20,21,22,23,24,25,26,27,28,29,30,31,32,33,34,35,36,37,38,39,40,41,42,43] [] [.slot 3 .l_EID (some (3,69)),.slot 4 .i64 none] [(.exit 0,[.slot 3 .l_EID (some (3,69))])] .no)) .no)))
set_option maxRecDepth 100000 in
theorem packhorselaw05_made.fn:FnT Tryd.prog 50 [.d .l_i64] [.l_EID] packhorselaw05_made :=
 FnT.of (X:=ctx 0 [packhorsekit_Mod.spec,packhorselaw05_ad.spec]) Tryd.mixed packhorselaw05_made.ann Tryd.func50 rfl (by kernel_rfl) (Nat.le_of_ble_eq_true rfl) (fun x=>by kernel_rfl)
noncomputable def packhorselaw05_made.spec:XSpec Tryd.prog:=XSpec.t 50 [.d .l_i64] [.l_EID] packhorselaw05_made (by kernel_rfl) packhorselaw05_made.fn
noncomputable def eid_pattern:List EID→Option Int :=
 fun l_1 =>
 br (decide ((20:Int) < (l_1.length:Int)))
  (some (5:Int))
  ((iter (σ:=Int) (ρ:=(Int) ⊕ (Unit)) (fun x_2 =>
   br (decide (x_2 < (l_1.length:Int)))
    ((idx l_1 x_2).bind fun x_3 =>
    (eid_Check x_3).bind fun x_4 =>
    br (x_4 != (0:Int))
     (some (.done (.inl x_4)))
     ((addI .i64 x_2 (1:Int)).bind fun x_5 =>
     some (.next x_5)))
    (some (.done (.inr ())))) (0:Int)).bind fun x_7 =>
  Sum.elim
   (fun x_6 =>
   some x_6)
   (fun _ =>
   some (0:Int)) x_7)
def eid_pattern.ann:Ann:=(.two .no (.two .no (.two (.two .no (.loop [2,4,5,11,12,13,14,15,16,17,18,19,20] [] [.slot 11 .i64 none] [(.ret,[.slot 2 .i64 none]),(.exit 0,[])] .no)) .no)))
set_option maxRecDepth 100000 in
theorem eid_pattern.fn:FnT Tryd.prog 109 [.d .l_EID] [.i64] eid_pattern :=
 FnT.of (X:=ctx 0 [eid_Check.spec]) Tryd.mixed eid_pattern.ann Tryd.func109 rfl (by kernel_rfl) (Nat.le_of_ble_eq_true rfl) (fun x=>by kernel_rfl)
noncomputable def eid_pattern.spec:XSpec Tryd.prog:=XSpec.t 109 [.d .l_EID] [.i64] eid_pattern (by kernel_rfl) eid_pattern.fn
noncomputable def eid_Join:List EID→Option ((List UInt8) × Int) :=
 fun l_1 =>
 (eid_pattern l_1).bind fun x_2 =>
 br (x_2 != (0:Int))
  (some (([]:List UInt8),x_2))
  ((mkL ([]:List UInt8) 16 (l_1.length:Int) (l_1.length:Int)).bind fun x_3 =>
  (iter (σ:=(List (List UInt8)) × Int) (ρ:=List (List UInt8)) (fun (texts_4,x_5) =>
   br (decide (x_5 < (l_1.length:Int)))
    ((idx l_1 x_5).bind fun x_6 =>
    (eid_Text x_6).bind fun (x_7,x_8) =>
    br (inB x_5 texts_4.length)
     ((idx texts_4 x_5).bind fun x_9 =>
     (addI .i64 x_5 (1:Int)).bind fun x_10 =>
     some (.next (setI texts_4 x_5 x_7,x_10)))
     (none))
    (some (.done texts_4))) (x_3,(0:Int))).bind fun texts_11 =>
  (strings_Join (texts_11,([44]:List UInt8))).bind fun x_12 =>
  some (x_12,(0:Int)))
def eid_Join.ann:Ann:=(.two .no (.two .no (.two .no (.two (.two .no (.loop [5,6,7,15,18,19,20,21,22,23,24,25,26,27,28,29,30,31] [] [.slot 5 .l_str (some (15,9)),.slot 18 .i64 none] [(.exit 0,[.slot 5 .l_str (some (15,9))])] .no)) .no))))
set_option maxRecDepth 100000 in
theorem eid_Join.fn:FnT Tryd.prog 51 [.d .l_EID] [.str,.i64] eid_Join :=
 FnT.of (X:=ctx 1073741824 [eid_pattern.spec,eid_Text.spec,strings_Join.spec]) Tryd.mixed eid_Join.ann Tryd.func51 rfl (by kernel_rfl) (Nat.le_of_ble_eq_true rfl) (fun x=>by kernel_rfl)
noncomputable def eid_Join.spec:XSpec Tryd.prog:=XSpec.t 51 [.d .l_EID] [.str,.i64] eid_Join (by kernel_rfl) eid_Join.fn
noncomputable def packhorselaw05_EidBack:List Int→Option Bool :=
 fun nums_1 =>
 (packhorselaw05_made nums_1).bind fun x_2 =>
 (eid_Join x_2).bind fun (x_3,x_4) =>
 (eid_List x_3).bind fun (x_5,x_6) =>
 br (x_4 != (0:Int))
  (some false)
  (br (x_6.Err != (0:Int))
   (some false)
   ((packhorselaw05_same (x_2,x_5)).bind fun x_7 =>
   br (!x_7)
    (some false)
    ((iter (σ:=Int) (ρ:=(Bool) ⊕ (Unit)) (fun i_8 =>
     br (decide (i_8 < (x_2.length:Int)))
      ((idx x_2 i_8).bind fun x_9 =>
      (eid_Text x_9).bind fun (x_10,x_11) =>
      (eid_Parse x_10).bind fun (x_12,x_13) =>
      br (x_11 != (0:Int))
       (some (.done (.inl false)))
       (br (x_13 != (0:Int))
        (some (.done (.inl false)))
        ((idx x_2 i_8).bind fun x_14 =>
        br (!((x_12.Low == x_14.Low) && ((x_12.High == x_14.High) && (x_12.Service == x_14.Service))))
         (some (.done (.inl false)))
         ((addI .i64 i_8 (1:Int)).bind fun x_15 =>
         some (.next x_15)))))
      (some (.done (.inr ())))) (0:Int)).bind fun x_18 =>
    Sum.elim
     (fun x_16 =>
     some x_16)
     (fun _ =>
     (packhorselaw05_awake ()).bind fun x_17 =>
     some x_17) x_18)))
def packhorselaw05_EidBack.ann:Ann:=(.two .no (.two .no (.two .no (.two .no (.two .no (.two (.two .no (.loop [2,8,9,10,11,12,38,39,40,41,42,43,44,45,46,47,48,49,50,51,52,53,54,55,56,57,58,59,60,61,62,63,64,65,66,67,68,69,70] [] [.slot 8 .i64 none] [(.ret,[.slot 2 .bool none]),(.exit 0,[])] .no)) .no))))))
set_option maxRecDepth 100000 in
theorem packhorselaw05_EidBack.fn:FnT Tryd.prog 10 [.d .l_i64] [.bool] packhorselaw05_EidBack :=
 FnT.of (X:=ctx 0 [packhorselaw05_made.spec,eid_Join.spec,eid_List.spec,packhorselaw05_same.spec,eid_Text.spec,eid_Parse.spec,packhorselaw05_awake.spec]) Tryd.mixed packhorselaw05_EidBack.ann Tryd.func10 rfl (by kernel_rfl) (Nat.le_of_ble_eq_true rfl) (fun x=>by kernel_rfl)
noncomputable def packhorselaw05_EidBack.spec:XSpec Tryd.prog:=XSpec.t 10 [.d .l_i64] [.bool] packhorselaw05_EidBack (by kernel_rfl) packhorselaw05_EidBack.fn
end Go.Proofs.YtjcbpfhlgebgdaaDoor
