import Derived.Test.YtecpknddocikaaaGreatDoorXGCan
import Derived.Test.YtecpknddocikaaaGreatDoorPTx
import Derived.Test.YtecpknddocikaaaGreatDoorXKA
import Derived.Test.YtecpknddocikaaaGreatDoorX9
import Derived.Test.YtecpknddocikaaaGreatDoorChecked
import Derived.KernelRfl
set_option linter.unusedSimpArgs false
set_option linter.unusedVariables false
namespace Go.Proofs.YtecpknddocikaaaGreatDoor
open Go.X Go.Eng
noncomputable def packhorselaw05_own : List EID → Option (List EID) :=
 fun l_1 =>
 (app 24 ([] : List EID) l_1).bind fun x_2 =>
 some x_2
def packhorselaw05_own.ann : Ann := .no
set_option maxRecDepth 100000 in
theorem packhorselaw05_own.fn : FnT Tryz.prog 5 [.d .l_EID] [.l_EID] packhorselaw05_own :=
 FnT.of (X := ctx 0 []) Tryz.mixed packhorselaw05_own.ann Tryz.func5 rfl (by kernel_rfl) (Nat.le_of_ble_eq_true rfl) (fun x => by kernel_rfl)
noncomputable def packhorselaw05_own.spec : XSpec Tryz.prog := XSpec.t 5 [.d .l_EID] [.l_EID] packhorselaw05_own (by kernel_rfl) packhorselaw05_own.fn
noncomputable def packhorseref05_Check : EID → Option Int :=
 fun e_1 =>
 br (decide (e_1.Low < (1 : Int)))
  (some (2 : Int))
  (br (decide (e_1.High < e_1.Low))
   (some (2 : Int))
   (br (decide ((16 : Int) < e_1.High))
    (some (2 : Int))
    (br (decide (e_1.Service < (-1 : Int)))
     (some (2 : Int))
     (br (decide ((999 : Int) < e_1.Service))
      (some (2 : Int))
      (some (0 : Int))))))
def packhorseref05_Check.ann : Ann := .no
set_option maxRecDepth 100000 in
theorem packhorseref05_Check.fn : FnT Tryz.prog 34 [.d .EID] [.i64] packhorseref05_Check :=
 FnT.of (X := ctx 0 []) Tryz.mixed packhorseref05_Check.ann Tryz.func34 rfl (by kernel_rfl) (Nat.le_of_ble_eq_true rfl) (fun x => by kernel_rfl)
noncomputable def packhorseref05_Check.spec : XSpec Tryz.prog := XSpec.t 34 [.d .EID] [.i64] packhorseref05_Check (by kernel_rfl) packhorseref05_Check.fn
noncomputable def packhorseref05_asks : List EID → Option Int :=
 fun l_1 =>
 br (decide ((20 : Int) < (l_1.length : Int)))
  (some (5 : Int))
  ((iter (σ := Int) (ρ := (Int) ⊕ (Unit)) (fun i_2 =>
   br (decide (i_2 < (l_1.length : Int)))
    ((idx l_1 i_2).bind fun x_3 =>
    (packhorseref05_Check x_3).bind fun x_4 =>
    br (x_4 != (0 : Int))
     (some (.done (.inl x_4)))
     ((addI .i64 i_2 (1 : Int)).bind fun x_5 =>
     some (.next x_5)))
    (some (.done (.inr ())))) (0 : Int)).bind fun x_7 =>
  Sum.elim
   (fun x_6 =>
   some x_6)
   (fun _ =>
   some (0 : Int)) x_7)
def packhorseref05_asks.ann : Ann := (.two .no (.two .no (.two (.two .no (.loop [2, 3, 4, 8, 9, 10, 11, 12, 13, 14, 15, 16, 17, 18, 19, 20, 21] [] [.slot 3 .i64 none] [(.ret, [.slot 2 .i64 none]), (.exit 0, [])] .no)) .no)))
set_option maxRecDepth 100000 in
theorem packhorseref05_asks.fn : FnT Tryz.prog 21 [.d .l_EID] [.i64] packhorseref05_asks :=
 FnT.of (X := ctx 0 [packhorseref05_Check.spec]) Tryz.mixed packhorseref05_asks.ann Tryz.func21 rfl (by kernel_rfl) (Nat.le_of_ble_eq_true rfl) (fun x => by kernel_rfl)
noncomputable def packhorseref05_asks.spec : XSpec Tryz.prog := XSpec.t 21 [.d .l_EID] [.i64] packhorseref05_asks (by kernel_rfl) packhorseref05_asks.fn
noncomputable def packhorseref05_match : ((List EID) × Int × Int) → Option Bool :=
 fun (l_1, node_2, service_3) =>
 (iter (σ := Int) (ρ := (Bool) ⊕ (Unit)) (fun i_4 =>
  br (decide (i_4 < (l_1.length : Int)))
   ((idx l_1 i_4).bind fun x_5 =>
   br (decide (x_5.Low ≤ node_2))
    ((idx l_1 i_4).bind fun x_6 =>
    br (decide (node_2 ≤ x_6.High))
     ((idx l_1 i_4).bind fun x_7 =>
     br (decide (x_7.Service < (0 : Int)))
      (some (.done (.inl true)))
      ((idx l_1 i_4).bind fun x_8 =>
      br (x_8.Service == service_3)
       (some (.done (.inl true)))
       ((addI .i64 i_4 (1 : Int)).bind fun x_9 =>
       some (.next x_9))))
     ((addI .i64 i_4 (1 : Int)).bind fun x_10 =>
     some (.next x_10)))
    ((addI .i64 i_4 (1 : Int)).bind fun x_11 =>
    some (.next x_11)))
   (some (.done (.inr ())))) (0 : Int)).bind fun x_13 =>
 Sum.elim
  (fun x_12 =>
  some x_12)
  (fun _ =>
  some false) x_13
def packhorseref05_match.ann : Ann := (.two .no (.two (.two .no (.loop [6, 7, 8, 9, 10, 11, 12, 13, 14, 15, 16, 17, 18, 19, 20, 21, 22, 23, 24, 25, 26, 27, 28, 29, 30, 31, 32, 33, 34, 35, 36, 37, 38, 39, 40, 41, 42, 43, 44, 45, 46] [] [.slot 7 .i64 none] [(.ret, [.slot 6 .bool none]), (.exit 0, [])] .no)) .no))
set_option maxRecDepth 100000 in
theorem packhorseref05_match.fn : FnT Tryz.prog 22 [.d .l_EID, .d .i64, .d .i64] [.bool] packhorseref05_match :=
 FnT.of (X := ctx 0 []) Tryz.mixed packhorseref05_match.ann Tryz.func22 rfl (by kernel_rfl) (Nat.le_of_ble_eq_true rfl) (fun x => by kernel_rfl)
noncomputable def packhorseref05_match.spec : XSpec Tryz.prog := XSpec.t 22 [.d .l_EID, .d .i64, .d .i64] [.bool] packhorseref05_match (by kernel_rfl) packhorseref05_match.fn
noncomputable def packhorseref05_Match : ((List EID) × Int × Int) → Option (Bool × Int) :=
 fun (l_1, node_2, service_3) =>
 (packhorseref05_asks l_1).bind fun x_4 =>
 br (x_4 != (0 : Int))
  (some (false, x_4))
  (br (decide (node_2 < (1 : Int)))
   (some (false, (2 : Int)))
   (br (decide ((16 : Int) < node_2))
    (some (false, (2 : Int)))
    (br (decide (service_3 < (0 : Int)))
     (some (false, (2 : Int)))
     (br (decide ((999 : Int) < service_3))
      (some (false, (2 : Int)))
      ((packhorseref05_match (l_1, node_2, service_3)).bind fun x_5 =>
      some (x_5, (0 : Int)))))))
def packhorseref05_Match.ann : Ann := .no
set_option maxRecDepth 100000 in
theorem packhorseref05_Match.fn : FnT Tryz.prog 7 [.d .l_EID, .d .i64, .d .i64] [.bool, .i64] packhorseref05_Match :=
 FnT.of (X := ctx 0 [packhorseref05_asks.spec, packhorseref05_match.spec]) Tryz.mixed packhorseref05_Match.ann Tryz.func7 rfl (by kernel_rfl) (Nat.le_of_ble_eq_true rfl) (fun x => by kernel_rfl)
noncomputable def packhorseref05_Match.spec : XSpec Tryz.prog := XSpec.t 7 [.d .l_EID, .d .i64, .d .i64] [.bool, .i64] packhorseref05_Match (by kernel_rfl) packhorseref05_Match.fn
noncomputable def eid_Text : EID → Option ((List UInt8) × Int) :=
 fun e_1 =>
 (eid_Check e_1).bind fun x_2 =>
 br (x_2 != (0 : Int))
  (some (([] : List UInt8), x_2))
  (br (e_1.Low == (1 : Int))
   (br (e_1.High == (16 : Int))
    ((catS ([110] : List UInt8) ([42] : List UInt8)).bind fun x_3 =>
    br (e_1.Service == (0 : Int))
     (some (x_3, (0 : Int)))
     (br (e_1.Service == (-1 : Int))
      ((catS x_3 ([46, 42] : List UInt8)).bind fun x_4 =>
      some (x_4, (0 : Int)))
      ((strconv_Itoa e_1.Service).bind fun x_5 =>
      (catS ([46] : List UInt8) x_5).bind fun x_6 =>
      (catS x_3 x_6).bind fun x_7 =>
      some (x_7, (0 : Int)))))
    (br (e_1.Low == e_1.High)
     ((strconv_Itoa e_1.Low).bind fun x_8 =>
     (catS ([110] : List UInt8) x_8).bind fun x_9 =>
     br (e_1.Service == (0 : Int))
      (some (x_9, (0 : Int)))
      (br (e_1.Service == (-1 : Int))
       ((catS x_9 ([46, 42] : List UInt8)).bind fun x_10 =>
       some (x_10, (0 : Int)))
       ((strconv_Itoa e_1.Service).bind fun x_11 =>
       (catS ([46] : List UInt8) x_11).bind fun x_12 =>
       (catS x_9 x_12).bind fun x_13 =>
       some (x_13, (0 : Int)))))
     ((strconv_Itoa e_1.Low).bind fun x_14 =>
     (catS x_14 ([45] : List UInt8)).bind fun x_15 =>
     (strconv_Itoa e_1.High).bind fun x_16 =>
     (catS x_15 x_16).bind fun x_17 =>
     (catS ([110] : List UInt8) x_17).bind fun x_18 =>
     br (e_1.Service == (0 : Int))
      (some (x_18, (0 : Int)))
      (br (e_1.Service == (-1 : Int))
       ((catS x_18 ([46, 42] : List UInt8)).bind fun x_19 =>
       some (x_19, (0 : Int)))
       ((strconv_Itoa e_1.Service).bind fun x_20 =>
       (catS ([46] : List UInt8) x_20).bind fun x_21 =>
       (catS x_18 x_21).bind fun x_22 =>
       some (x_22, (0 : Int)))))))
   (br (e_1.Low == e_1.High)
    ((strconv_Itoa e_1.Low).bind fun x_23 =>
    (catS ([110] : List UInt8) x_23).bind fun x_24 =>
    br (e_1.Service == (0 : Int))
     (some (x_24, (0 : Int)))
     (br (e_1.Service == (-1 : Int))
      ((catS x_24 ([46, 42] : List UInt8)).bind fun x_25 =>
      some (x_25, (0 : Int)))
      ((strconv_Itoa e_1.Service).bind fun x_26 =>
      (catS ([46] : List UInt8) x_26).bind fun x_27 =>
      (catS x_24 x_27).bind fun x_28 =>
      some (x_28, (0 : Int)))))
    ((strconv_Itoa e_1.Low).bind fun x_29 =>
    (catS x_29 ([45] : List UInt8)).bind fun x_30 =>
    (strconv_Itoa e_1.High).bind fun x_31 =>
    (catS x_30 x_31).bind fun x_32 =>
    (catS ([110] : List UInt8) x_32).bind fun x_33 =>
    br (e_1.Service == (0 : Int))
     (some (x_33, (0 : Int)))
     (br (e_1.Service == (-1 : Int))
      ((catS x_33 ([46, 42] : List UInt8)).bind fun x_34 =>
      some (x_34, (0 : Int)))
      ((strconv_Itoa e_1.Service).bind fun x_35 =>
      (catS ([46] : List UInt8) x_35).bind fun x_36 =>
      (catS x_33 x_36).bind fun x_37 =>
      some (x_37, (0 : Int)))))))
def eid_Text.ann : Ann := .no
set_option maxRecDepth 100000 in
theorem eid_Text.fn : FnT Tryz.prog 23 [.d .EID] [.str, .i64] eid_Text :=
 FnT.of (X := ctx 0 [eid_Check.spec, strconv_Itoa.spec]) Tryz.mixed eid_Text.ann Tryz.func23 rfl (by kernel_rfl) (Nat.le_of_ble_eq_true rfl) (fun x => by kernel_rfl)
noncomputable def eid_Text.spec : XSpec Tryz.prog := XSpec.t 23 [.d .EID] [.str, .i64] eid_Text (by kernel_rfl) eid_Text.fn
noncomputable def eid_Join : List EID → Option ((List UInt8) × Int) :=
 fun l_1 =>
 (eid_pattern l_1).bind fun x_2 =>
 br (x_2 != (0 : Int))
  (some (([] : List UInt8), x_2))
  ((mkL ([] : List UInt8) 16 (l_1.length : Int) (l_1.length : Int)).bind fun x_3 =>
  (iter (σ := (List (List UInt8)) × Int) (ρ := List (List UInt8)) (fun (texts_4, x_5) =>
   br (decide (x_5 < (l_1.length : Int)))
    ((idx l_1 x_5).bind fun x_6 =>
    (eid_Text x_6).bind fun (x_7, x_8) =>
    br (inB x_5 texts_4.length)
     ((idx texts_4 x_5).bind fun x_9 =>
     (addI .i64 x_5 (1 : Int)).bind fun x_10 =>
     some (.next (setI texts_4 x_5 x_7, x_10)))
     (none))
    (some (.done texts_4))) (x_3, (0 : Int))).bind fun texts_11 =>
  (strings_Join (texts_11, ([44] : List UInt8))).bind fun x_12 =>
  some (x_12, (0 : Int)))
def eid_Join.ann : Ann := (.two .no (.two .no (.two .no (.two (.two .no (.loop [5, 6, 7, 15, 18, 19, 20, 21, 22, 23, 24, 25, 26, 27, 28, 29, 30, 31] [] [.slot 5 .l_str (some (15, 9)), .slot 18 .i64 none] [(.exit 0, [.slot 5 .l_str (some (15, 9))])] .no)) .no))))
set_option maxRecDepth 100000 in
theorem eid_Join.fn : FnT Tryz.prog 8 [.d .l_EID] [.str, .i64] eid_Join :=
 FnT.of (X := ctx 1073741824 [eid_pattern.spec, eid_Text.spec, strings_Join.spec]) Tryz.mixed eid_Join.ann Tryz.func8 rfl (by kernel_rfl) (Nat.le_of_ble_eq_true rfl) (fun x => by kernel_rfl)
noncomputable def eid_Join.spec : XSpec Tryz.prog := XSpec.t 8 [.d .l_EID] [.str, .i64] eid_Join (by kernel_rfl) eid_Join.fn
noncomputable def packhorseref05_digits_f (self_ : Int → Option (List UInt8)) : Int → Option (List UInt8) :=
 fun n_1 =>
 br (decide (n_1 < (10 : Int)))
  ((addI .i64 n_1 (1 : Int)).bind fun x_2 =>
  (slc ([48, 49, 50, 51, 52, 53, 54, 55, 56, 57] : List UInt8) n_1 x_2).bind fun x_3 =>
  some x_3)
  ((quoI .i64 n_1 (10 : Int)).bind fun x_4 =>
  (self_ x_4).bind fun x_5 =>
  (remI n_1 (10 : Int)).bind fun x_6 =>
  (remI n_1 (10 : Int)).bind fun x_7 =>
  (addI .i64 x_7 (1 : Int)).bind fun x_8 =>
  (slc ([48, 49, 50, 51, 52, 53, 54, 55, 56, 57] : List UInt8) x_6 x_8).bind fun x_9 =>
  (catS x_5 x_9).bind fun x_10 =>
  some x_10)
noncomputable def packhorseref05_digits_n : Nat → Int → Option (List UInt8)
 | 0 => fun _ => none
 | k + 1 => packhorseref05_digits_f (packhorseref05_digits_n k)
noncomputable def packhorseref05_digits : Int → Option (List UInt8) := packhorseref05_digits_n 100
def packhorseref05_digits.ann : Ann := .no
set_option maxRecDepth 100000 in
theorem packhorseref05_digits_n.step (k : Nat) (ih : FnT Tryz.prog 39 [.d .i64] [.str] (packhorseref05_digits_n k)) : FnT Tryz.prog 39 [.d .i64] [.str] (packhorseref05_digits_n (k + 1)) :=
 FnT.of (X := ctx 0 [XSpec.t 39 [.d .i64] [.str] (packhorseref05_digits_n k) (by kernel_rfl) ih]) Tryz.mixed packhorseref05_digits.ann Tryz.func39 rfl (by kernel_rfl) (Nat.le_of_ble_eq_true rfl) (fun x => by kernel_rfl)
theorem packhorseref05_digits_n.fn : ∀ k, FnT Tryz.prog 39 [.d .i64] [.str] (packhorseref05_digits_n k)
 | 0 => fun x r h => by cases h
 | k + 1 => packhorseref05_digits_n.step k (packhorseref05_digits_n.fn k)
theorem packhorseref05_digits.fn : FnT Tryz.prog 39 [.d .i64] [.str] packhorseref05_digits := packhorseref05_digits_n.fn 100
noncomputable def packhorseref05_digits.spec : XSpec Tryz.prog := XSpec.t 39 [.d .i64] [.str] packhorseref05_digits (by kernel_rfl) packhorseref05_digits.fn
noncomputable def packhorseref05_Text : EID → Option ((List UInt8) × Int) :=
 fun e_1 =>
 (packhorseref05_Check e_1).bind fun x_2 =>
 br (x_2 != (0 : Int))
  (some (([] : List UInt8), x_2))
  ((packhorseref05_digits e_1.Low).bind fun x_3 =>
  (catS ([110] : List UInt8) x_3).bind fun x_4 =>
  br (e_1.Low == (1 : Int))
   (br (e_1.High == (16 : Int))
    (br (decide (e_1.Service < (0 : Int)))
     ((catS ([110, 42] : List UInt8) ([46, 42] : List UInt8)).bind fun x_5 =>
     some (x_5, (0 : Int)))
     (br (decide ((0 : Int) < e_1.Service))
      ((catS ([110, 42] : List UInt8) ([46] : List UInt8)).bind fun x_6 =>
      (packhorseref05_digits e_1.Service).bind fun x_7 =>
      (catS x_6 x_7).bind fun x_8 =>
      some (x_8, (0 : Int)))
      (some (([110, 42] : List UInt8), (0 : Int)))))
    (br (decide (e_1.Low < e_1.High))
     ((catS x_4 ([45] : List UInt8)).bind fun x_9 =>
     (packhorseref05_digits e_1.High).bind fun x_10 =>
     (catS x_9 x_10).bind fun x_11 =>
     br (decide (e_1.Service < (0 : Int)))
      ((catS x_11 ([46, 42] : List UInt8)).bind fun x_12 =>
      some (x_12, (0 : Int)))
      (br (decide ((0 : Int) < e_1.Service))
       ((catS x_11 ([46] : List UInt8)).bind fun x_13 =>
       (packhorseref05_digits e_1.Service).bind fun x_14 =>
       (catS x_13 x_14).bind fun x_15 =>
       some (x_15, (0 : Int)))
       (some (x_11, (0 : Int)))))
     (br (decide (e_1.Service < (0 : Int)))
      ((catS x_4 ([46, 42] : List UInt8)).bind fun x_16 =>
      some (x_16, (0 : Int)))
      (br (decide ((0 : Int) < e_1.Service))
       ((catS x_4 ([46] : List UInt8)).bind fun x_17 =>
       (packhorseref05_digits e_1.Service).bind fun x_18 =>
       (catS x_17 x_18).bind fun x_19 =>
       some (x_19, (0 : Int)))
       (some (x_4, (0 : Int)))))))
   (br (decide (e_1.Low < e_1.High))
    ((catS x_4 ([45] : List UInt8)).bind fun x_20 =>
    (packhorseref05_digits e_1.High).bind fun x_21 =>
    (catS x_20 x_21).bind fun x_22 =>
    br (decide (e_1.Service < (0 : Int)))
     ((catS x_22 ([46, 42] : List UInt8)).bind fun x_23 =>
     some (x_23, (0 : Int)))
     (br (decide ((0 : Int) < e_1.Service))
      ((catS x_22 ([46] : List UInt8)).bind fun x_24 =>
      (packhorseref05_digits e_1.Service).bind fun x_25 =>
      (catS x_24 x_25).bind fun x_26 =>
      some (x_26, (0 : Int)))
      (some (x_22, (0 : Int)))))
    (br (decide (e_1.Service < (0 : Int)))
     ((catS x_4 ([46, 42] : List UInt8)).bind fun x_27 =>
     some (x_27, (0 : Int)))
     (br (decide ((0 : Int) < e_1.Service))
      ((catS x_4 ([46] : List UInt8)).bind fun x_28 =>
      (packhorseref05_digits e_1.Service).bind fun x_29 =>
      (catS x_28 x_29).bind fun x_30 =>
      some (x_30, (0 : Int)))
      (some (x_4, (0 : Int)))))))
def packhorseref05_Text.ann : Ann := .no
set_option maxRecDepth 100000 in
theorem packhorseref05_Text.fn : FnT Tryz.prog 25 [.d .EID] [.str, .i64] packhorseref05_Text :=
 FnT.of (X := ctx 0 [packhorseref05_Check.spec, packhorseref05_digits.spec]) Tryz.mixed packhorseref05_Text.ann Tryz.func25 rfl (by kernel_rfl) (Nat.le_of_ble_eq_true rfl) (fun x => by kernel_rfl)
noncomputable def packhorseref05_Text.spec : XSpec Tryz.prog := XSpec.t 25 [.d .EID] [.str, .i64] packhorseref05_Text (by kernel_rfl) packhorseref05_Text.fn
noncomputable def packhorseref05_Join : List EID → Option ((List UInt8) × Int) :=
 fun l_1 =>
 (packhorseref05_asks l_1).bind fun x_2 =>
 br (x_2 != (0 : Int))
  (some (([] : List UInt8), x_2))
  ((iter (σ := (List UInt8) × Int) (ρ := List UInt8) (fun (out_3, i_4) =>
   br (decide (i_4 < (l_1.length : Int)))
    ((idx l_1 i_4).bind fun x_5 =>
    (packhorseref05_Text x_5).bind fun (x_6, x_7) =>
    br (decide ((0 : Int) < i_4))
     ((catS out_3 ([44] : List UInt8)).bind fun x_8 =>
     (catS x_8 x_6).bind fun x_9 =>
     (addI .i64 i_4 (1 : Int)).bind fun x_10 =>
     some (.next (x_9, x_10)))
     ((catS out_3 x_6).bind fun x_11 =>
     (addI .i64 i_4 (1 : Int)).bind fun x_12 =>
     some (.next (x_11, x_12))))
    (some (.done out_3))) (([] : List UInt8), (0 : Int))).bind fun out_13 =>
  some (out_13, (0 : Int)))
def packhorseref05_Join.ann : Ann := (.two .no (.two .no (.two .no (.two (.two .no (.loop [5, 6, 7, 8, 14, 15, 16, 17, 18, 19, 20, 21, 22, 23, 24, 25, 26, 27, 28, 29, 30, 31, 32, 33, 34] [] [.slot 5 .str none, .slot 6 .i64 none] [(.exit 0, [.slot 5 .str none])] .no)) .no))))
set_option maxRecDepth 100000 in
theorem packhorseref05_Join.fn : FnT Tryz.prog 9 [.d .l_EID] [.str, .i64] packhorseref05_Join :=
 FnT.of (X := ctx 0 [packhorseref05_asks.spec, packhorseref05_Text.spec]) Tryz.mixed packhorseref05_Join.ann Tryz.func9 rfl (by kernel_rfl) (Nat.le_of_ble_eq_true rfl) (fun x => by kernel_rfl)
noncomputable def packhorseref05_Join.spec : XSpec Tryz.prog := XSpec.t 9 [.d .l_EID] [.str, .i64] packhorseref05_Join (by kernel_rfl) packhorseref05_Join.fn
noncomputable def packhorseref05_Nodes : ((List EID) × Int) → Option ((List Int) × Int) :=
 fun (l_1, service_2) =>
 (packhorseref05_asks l_1).bind fun x_3 =>
 br (x_3 != (0 : Int))
  (some (([] : List Int), x_3))
  (br (decide (service_2 < (0 : Int)))
   (some (([] : List Int), (2 : Int)))
   (br (decide ((999 : Int) < service_2))
    (some (([] : List Int), (2 : Int)))
    ((iter (σ := (List Int) × Int) (ρ := List Int) (fun (out_4, n_5) =>
     br (decide (n_5 ≤ (16 : Int)))
      ((packhorseref05_match (l_1, n_5, service_2)).bind fun x_6 =>
      br x_6
       ((app 8 out_4 ([n_5] : List Int)).bind fun x_7 =>
       (addI .i64 n_5 (1 : Int)).bind fun x_8 =>
       some (.next (x_7, x_8)))
       ((addI .i64 n_5 (1 : Int)).bind fun x_9 =>
       some (.next (out_4, x_9))))
      (some (.done out_4))) (([] : List Int), (1 : Int))).bind fun out_10 =>
    some (out_10, (0 : Int)))))
def packhorseref05_Nodes.ann : Ann := (.two .no (.two .no (.two .no (.two .no (.two (.two .no (.loop [7, 8, 20, 21, 22, 23, 24, 25, 26, 27, 28, 29, 30, 31] [] [.slot 7 .l_i64 (some (7, 3)), .slot 8 .i64 none] [(.exit 0, [.slot 7 .l_i64 (some (7, 3))])] .no)) .no)))))
set_option maxRecDepth 100000 in
theorem packhorseref05_Nodes.fn : FnT Tryz.prog 11 [.d .l_EID, .d .i64] [.l_i64, .i64] packhorseref05_Nodes :=
 FnT.of (X := ctx 0 [packhorseref05_asks.spec, packhorseref05_match.spec]) Tryz.mixed packhorseref05_Nodes.ann Tryz.func11 rfl (by kernel_rfl) (Nat.le_of_ble_eq_true rfl) (fun x => by kernel_rfl)
noncomputable def packhorseref05_Nodes.spec : XSpec Tryz.prog := XSpec.t 11 [.d .l_EID, .d .i64] [.l_i64, .i64] packhorseref05_Nodes (by kernel_rfl) packhorseref05_Nodes.fn
noncomputable def packhorseref05_every : ((List EID) × Int) → Option Bool :=
 fun (l_1, node_2) =>
 (iter (σ := Int) (ρ := (Bool) ⊕ (Unit)) (fun i_3 =>
  br (decide (i_3 < (l_1.length : Int)))
   ((idx l_1 i_3).bind fun x_4 =>
   br (decide (x_4.Service < (0 : Int)))
    ((idx l_1 i_3).bind fun x_5 =>
    br (decide (x_5.Low ≤ node_2))
     ((idx l_1 i_3).bind fun x_6 =>
     br (decide (node_2 ≤ x_6.High))
      (some (.done (.inl true)))
      ((addI .i64 i_3 (1 : Int)).bind fun x_7 =>
      some (.next x_7)))
     ((addI .i64 i_3 (1 : Int)).bind fun x_8 =>
     some (.next x_8)))
    ((addI .i64 i_3 (1 : Int)).bind fun x_9 =>
    some (.next x_9)))
   (some (.done (.inr ())))) (0 : Int)).bind fun x_11 =>
 Sum.elim
  (fun x_10 =>
  some x_10)
  (fun _ =>
  some false) x_11
def packhorseref05_every.ann : Ann := (.two .no (.two (.two .no (.loop [4, 5, 6, 7, 8, 9, 10, 11, 12, 13, 14, 15, 16, 17, 18, 19, 20, 21, 22, 23, 24, 25, 26, 27, 28, 29, 30, 31, 32, 33, 34, 35] [] [.slot 5 .i64 none] [(.ret, [.slot 4 .bool none]), (.exit 0, [])] .no)) .no))
set_option maxRecDepth 100000 in
theorem packhorseref05_every.fn : FnT Tryz.prog 29 [.d .l_EID, .d .i64] [.bool] packhorseref05_every :=
 FnT.of (X := ctx 0 []) Tryz.mixed packhorseref05_every.ann Tryz.func29 rfl (by kernel_rfl) (Nat.le_of_ble_eq_true rfl) (fun x => by kernel_rfl)
noncomputable def packhorseref05_every.spec : XSpec Tryz.prog := XSpec.t 29 [.d .l_EID, .d .i64] [.bool] packhorseref05_every (by kernel_rfl) packhorseref05_every.fn
noncomputable def packhorseref05_ranges : ((List Bool) × Int) → Option (List EID) :=
 fun (is_1, service_2) =>
 (iter (σ := (List EID) × Int) (ρ := List EID) (fun (out_3, n_4) =>
  br (decide (n_4 ≤ (16 : Int)))
   ((idx is_1 n_4).bind fun x_5 =>
   br x_5
    ((subI .i64 n_4 (1 : Int)).bind fun x_6 =>
    (idx is_1 x_6).bind fun x_7 =>
    br x_7
     ((subI .i64 (out_3.length : Int) (1 : Int)).bind fun x_8 =>
     br (inB x_8 out_3.length)
      ((idx out_3 x_8).bind fun x_9 =>
      (addI .i64 n_4 (1 : Int)).bind fun x_10 =>
      some (.next (setI out_3 x_8 (⟨x_9.Low, n_4, x_9.Service⟩ : EID), x_10)))
      (none))
     ((idx is_1 n_4).bind fun x_11 =>
     br x_11
      ((app 24 out_3 ([(⟨n_4, n_4, service_2⟩ : EID)] : List EID)).bind fun x_12 =>
      (addI .i64 n_4 (1 : Int)).bind fun x_13 =>
      some (.next (x_12, x_13)))
      ((addI .i64 n_4 (1 : Int)).bind fun x_14 =>
      some (.next (out_3, x_14)))))
    ((idx is_1 n_4).bind fun x_15 =>
    br x_15
     ((app 24 out_3 ([(⟨n_4, n_4, service_2⟩ : EID)] : List EID)).bind fun x_16 =>
     (addI .i64 n_4 (1 : Int)).bind fun x_17 =>
     some (.next (x_16, x_17)))
     ((addI .i64 n_4 (1 : Int)).bind fun x_18 =>
     some (.next (out_3, x_18)))))
   (some (.done out_3))) (([] : List EID), (1 : Int))).bind fun out_19 =>
 some out_19
def packhorseref05_ranges.ann : Ann := (.two .no (.two .no (.two (.two .no (.loop [4, 5, 6, 7, 8, 9, 10, 11, 12, 13, 14, 15, 16, 17, 18, 19, 20, 21, 22, 23, 24, 25, 26, 27, 28, 29, 30, 31, 32, 33, 34, 35, 36, 37, 38, 39, 40, 41] [] [.slot 5 .l_EID (some (5, 40)), .slot 6 .i64 none] [(.exit 0, [.slot 5 .l_EID (some (5, 40))])] .no)) .no)))
set_option maxRecDepth 100000 in
theorem packhorseref05_ranges.fn : FnT Tryz.prog 30 [.d .l_bool, .d .i64] [.l_EID] packhorseref05_ranges :=
 FnT.of (X := ctx 268435456 []) Tryz.mixed packhorseref05_ranges.ann Tryz.func30 rfl (by kernel_rfl) (Nat.le_of_ble_eq_true rfl) (fun x => by kernel_rfl)
noncomputable def packhorseref05_ranges.spec : XSpec Tryz.prog := XSpec.t 30 [.d .l_bool, .d .i64] [.l_EID] packhorseref05_ranges (by kernel_rfl) packhorseref05_ranges.fn
set_option maxRecDepth 100000 in
theorem packhorseref05_ranges.fo : FnTO Tryz.prog 30 [.d .l_bool, .d .i64] .EID 40 packhorseref05_ranges :=
 FnTO.of (X := ctx 268435456 []) Tryz.mixed packhorseref05_ranges.ann Tryz.func30 rfl (by kernel_rfl) (Nat.le_of_ble_eq_true rfl) (fun x => by kernel_rfl)
noncomputable def packhorseref05_ranges.ow : XOwn Tryz.prog := XOwn.t 30 [.d .l_bool, .d .i64] .EID 40 packhorseref05_ranges (by kernel_rfl) packhorseref05_ranges.fo
noncomputable def packhorseref05_Canon : List EID → Option ((List EID) × Int) :=
 fun l_1 =>
 (packhorseref05_asks l_1).bind fun x_2 =>
 br (x_2 != (0 : Int))
  (some (([] : List EID), x_2))
  ((mkL false 1 (17 : Int) (17 : Int)).bind fun x_3 =>
  (iter (σ := (List Bool) × Int) (ρ := List Bool) (fun (any_4, n_5) =>
   br (decide (n_5 ≤ (16 : Int)))
    ((packhorseref05_every (l_1, n_5)).bind fun x_6 =>
    br (inB n_5 any_4.length)
     ((idx any_4 n_5).bind fun x_7 =>
     (addI .i64 n_5 (1 : Int)).bind fun x_8 =>
     some (.next (setI any_4 n_5 x_6, x_8)))
     (none))
    (some (.done any_4))) (x_3, (1 : Int))).bind fun any_9 =>
  (packhorseref05_ranges (any_9, (-1 : Int))).bind fun x_10 =>
  (iter (σ := (List Bool) × (List EID) × Int) (ρ := List EID) (fun (any_11, out_12, service_13) =>
   br (decide (service_13 ≤ (999 : Int)))
    ((mkL false 1 (17 : Int) (17 : Int)).bind fun x_14 =>
    (iter (σ := (List Bool) × (List EID) × (List Bool) × Int) (ρ := (List Bool) × (List EID) × (List Bool)) (fun (any_15, out_16, is_17, n_18) =>
     br (decide (n_18 ≤ (16 : Int)))
      ((idx any_15 n_18).bind fun x_19 =>
      br (!x_19)
       ((packhorseref05_match (l_1, n_18, service_13)).bind fun x_20 =>
       br (inB n_18 is_17.length)
        ((idx is_17 n_18).bind fun x_21 =>
        (addI .i64 n_18 (1 : Int)).bind fun x_22 =>
        some (.next (any_15, out_16, setI is_17 n_18 x_20, x_22)))
        (none))
       (br (inB n_18 is_17.length)
        ((idx is_17 n_18).bind fun x_23 =>
        (addI .i64 n_18 (1 : Int)).bind fun x_24 =>
        some (.next (any_15, out_16, setI is_17 n_18 false, x_24)))
        (none)))
      (some (.done (any_15, out_16, is_17)))) (any_11, out_12, x_14, (1 : Int))).bind fun (any_25, out_26, is_27) =>
    (packhorseref05_ranges (is_27, service_13)).bind fun x_28 =>
    (app 24 out_26 x_28).bind fun x_29 =>
    (addI .i64 service_13 (1 : Int)).bind fun x_30 =>
    some (.next (any_25, x_29, x_30)))
    (some (.done out_12))) (any_9, x_10, (0 : Int))).bind fun out_31 =>
  br (decide ((20 : Int) < (out_31.length : Int)))
   (some (([] : List EID), (5 : Int)))
   (some (out_31, (0 : Int))))
def packhorseref05_Canon.ann : Ann := (.two .no (.two .no (.two .no (.two (.two .no (.loop [2, 5, 6, 16, 17, 18, 19, 20, 21, 22, 23, 24, 25, 26] [] [.slot 5 .l_bool (some (16, 4)), .slot 6 .i64 none] [(.exit 0, [.slot 5 .l_bool (some (16, 4))])] .no)) (.two .no (.two (.two .no (.loop [2, 5, 7, 8, 9, 10, 29, 30, 31, 32, 33, 34, 35, 36, 37, 38, 39, 40, 41, 42, 43, 44, 45, 46, 47, 48, 49, 50, 51, 52, 53, 54, 55, 56] [] [.slot 5 .l_bool (some (16, 4)), .slot 7 .l_EID (some (28, 40)), .slot 8 .i64 none] [(.exit 2, [.slot 7 .l_EID (some (28, 40))])] (.two .no (.two (.two .no (.two (.two .no (.loop [2, 5, 7, 9, 10, 33, 34, 35, 36, 37, 38, 39, 40, 41, 42, 43, 44, 45, 46, 47, 48, 49, 50, 51] [] [.slot 5 .l_bool (some (16, 4)), .slot 7 .l_EID (some (28, 40)), .slot 9 .l_bool (some (33, 4)), .slot 10 .i64 none] [(.exit 4, [.slot 5 .l_bool (some (16, 4)), .slot 7 .l_EID (some (28, 40)), .slot 9 .l_bool (some (33, 4))])] .no)) .no)) .no)))) .no))))))
set_option maxRecDepth 100000 in
theorem packhorseref05_Canon.fn : FnT Tryz.prog 13 [.d .l_EID] [.l_EID, .i64] packhorseref05_Canon :=
 FnT.of (X := ctxO 2251799880794112 [packhorseref05_asks.spec, packhorseref05_every.spec, packhorseref05_ranges.spec, packhorseref05_match.spec] [] [packhorseref05_ranges.ow]) Tryz.mixed packhorseref05_Canon.ann Tryz.func13 rfl (by kernel_rfl) (Nat.le_of_ble_eq_true rfl) (fun x => by kernel_rfl)
noncomputable def packhorseref05_Canon.spec : XSpec Tryz.prog := XSpec.t 13 [.d .l_EID] [.l_EID, .i64] packhorseref05_Canon (by kernel_rfl) packhorseref05_Canon.fn
noncomputable def packhorselaw05_EidMatches : ((List EID) × Int × Int) → Option Bool :=
 fun (l_1, node_2, service_3) =>
 br (decide ((30 : Int) < (l_1.length : Int)))
  ((packhorselaw05_awake ()).bind fun x_4 =>
  some x_4)
  ((packhorselaw05_own l_1).bind fun x_5 =>
  (eid_Match (x_5, node_2, service_3)).bind fun (x_6, x_7) =>
  (packhorseref05_Match (l_1, node_2, service_3)).bind fun (x_8, x_9) =>
  (eid_Join x_5).bind fun (x_10, x_11) =>
  (packhorseref05_Join l_1).bind fun (x_12, x_13) =>
  br (!(x_6 == x_8))
   (some false)
   (br (x_7 != x_9)
    (some false)
    (br (!(x_10 == x_12))
     (some false)
     (br (x_11 != x_13)
      (some false)
      ((eid_Nodes (x_5, service_3)).bind fun (x_14, x_15) =>
      (packhorseref05_Nodes (l_1, service_3)).bind fun (x_16, x_17) =>
      br ((x_14.length : Int) != (x_16.length : Int))
       (some false)
       (br (x_15 != x_17)
        (some false)
        ((iter (σ := Int) (ρ := (Bool) ⊕ (Unit)) (fun i_18 =>
         br (decide (i_18 < (x_14.length : Int)))
          ((idx x_14 i_18).bind fun x_19 =>
          (idx x_16 i_18).bind fun x_20 =>
          br (x_19 != x_20)
           (some (.done (.inl false)))
           ((addI .i64 i_18 (1 : Int)).bind fun x_21 =>
           some (.next x_21)))
          (some (.done (.inr ())))) (0 : Int)).bind fun x_30 =>
        Sum.elim
         (fun x_22 =>
         some x_22)
         (fun _ =>
         (eid_Canon x_5).bind fun (x_23, x_24) =>
         (packhorseref05_Canon l_1).bind fun (x_25, x_26) =>
         (packhorselaw05_same (x_23, x_25)).bind fun x_27 =>
         br x_27
          (br (x_24 == x_26)
           ((packhorselaw05_same (x_5, l_1)).bind fun x_28 =>
           br x_28
            ((packhorselaw05_awake ()).bind fun x_29 =>
            some x_29)
            (some false))
           (some false))
          (some false)) x_30)))))))
def packhorselaw05_EidMatches.ann : Ann := (.two .no (.two .no (.two .no (.two .no (.two .no (.two .no (.two .no (.two .no (.two .no (.two .no (.two .no (.two (.two .no (.loop [6, 18, 91, 92, 93, 94, 95, 96, 97, 98, 99, 100, 101, 102, 103, 104, 105] [] [.slot 18 .i64 none] [(.ret, [.slot 6 .bool none]), (.exit 0, [])] .no)) .no))))))))))))
set_option maxRecDepth 100000 in
theorem packhorselaw05_EidMatches.fn : FnT Tryz.prog 3 [.d .l_EID, .d .i64, .d .i64] [.bool] packhorselaw05_EidMatches :=
 FnT.of (X := ctx 0 [packhorselaw05_awake.spec, packhorselaw05_own.spec, eid_Match.spec, packhorseref05_Match.spec, eid_Join.spec, packhorseref05_Join.spec, eid_Nodes.spec, packhorseref05_Nodes.spec, eid_Canon.spec, packhorseref05_Canon.spec, packhorselaw05_same.spec]) Tryz.mixed packhorselaw05_EidMatches.ann Tryz.func3 rfl (by kernel_rfl) (Nat.le_of_ble_eq_true rfl) (fun x => by kernel_rfl)
noncomputable def packhorselaw05_EidMatches.spec : XSpec Tryz.prog := XSpec.t 3 [.d .l_EID, .d .i64, .d .i64] [.bool] packhorselaw05_EidMatches (by kernel_rfl) packhorselaw05_EidMatches.fn
end Go.Proofs.YtecpknddocikaaaGreatDoor
