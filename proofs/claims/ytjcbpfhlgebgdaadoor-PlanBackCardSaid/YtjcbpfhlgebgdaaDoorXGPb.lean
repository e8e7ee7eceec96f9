import Derived.Test.YtjcbpfhlgebgdaaDoorXCn
import Derived.Test.YtjcbpfhlgebgdaaDoorXAp
import Derived.Test.YtjcbpfhlgebgdaaDoorX9
import Derived.Test.YtjcbpfhlgebgdaaDoorChecked
import Derived.KernelRfl
set_option linter.unusedSimpArgs false
/- What the interpreter makes of functions of the program, printed by xexec.py. -/
namespace Go.Proofs.YtjcbpfhlgebgdaaDoor
open Go.X Go.Eng
set_option linter.unusedVariables false
/-- packhorse/packhorsekit.lay -/
noncomputable def packhorsekit_lay : ((List Contact) × Contact) → Option (List Contact) :=
  fun (l_1, c_2) =>
  (iter (σ := Int × Int) (ρ := (List Contact) ⊕ (Int)) (fun (at_3, i_4) =>
    br (decide (i_4 < (l_1.length : Int)))
      ((idx l_1 i_4).bind fun x_5 =>
      br (x_5.From == c_2.From)
        (br (x_5.To == c_2.To)
          (br (decide (x_5.Start < c_2.End))
            (br (decide (c_2.Start < x_5.End))
              (some (.done (.inl l_1)))
              (br (decide (x_5.Start < c_2.Start))
                ((addI .i64 i_4 (1 : Int)).bind fun x_6 =>
                (addI .i64 i_4 (1 : Int)).bind fun x_7 =>
                some (.next (x_6, x_7)))
                (br (x_5.Start == c_2.Start)
                  (br (decide (x_5.From < c_2.From))
                    ((addI .i64 i_4 (1 : Int)).bind fun x_8 =>
                    (addI .i64 i_4 (1 : Int)).bind fun x_9 =>
                    some (.next (x_8, x_9)))
                    (br (x_5.From == c_2.From)
                      (br (decide (x_5.To < c_2.To))
                        ((addI .i64 i_4 (1 : Int)).bind fun x_10 =>
                        (addI .i64 i_4 (1 : Int)).bind fun x_11 =>
                        some (.next (x_10, x_11)))
                        ((addI .i64 i_4 (1 : Int)).bind fun x_12 =>
                        some (.next (at_3, x_12))))
                      ((addI .i64 i_4 (1 : Int)).bind fun x_13 =>
                      some (.next (at_3, x_13)))))
                  ((addI .i64 i_4 (1 : Int)).bind fun x_14 =>
                  some (.next (at_3, x_14))))))
            (br (decide (x_5.Start < c_2.Start))
              ((addI .i64 i_4 (1 : Int)).bind fun x_15 =>
              (addI .i64 i_4 (1 : Int)).bind fun x_16 =>
              some (.next (x_15, x_16)))
              (br (x_5.Start == c_2.Start)
                (br (decide (x_5.From < c_2.From))
                  ((addI .i64 i_4 (1 : Int)).bind fun x_17 =>
                  (addI .i64 i_4 (1 : Int)).bind fun x_18 =>
                  some (.next (x_17, x_18)))
                  (br (x_5.From == c_2.From)
                    (br (decide (x_5.To < c_2.To))
                      ((addI .i64 i_4 (1 : Int)).bind fun x_19 =>
                      (addI .i64 i_4 (1 : Int)).bind fun x_20 =>
                      some (.next (x_19, x_20)))
                      ((addI .i64 i_4 (1 : Int)).bind fun x_21 =>
                      some (.next (at_3, x_21))))
                    ((addI .i64 i_4 (1 : Int)).bind fun x_22 =>
                    some (.next (at_3, x_22)))))
                ((addI .i64 i_4 (1 : Int)).bind fun x_23 =>
                some (.next (at_3, x_23))))))
          (br (decide (x_5.Start < c_2.Start))
            ((addI .i64 i_4 (1 : Int)).bind fun x_24 =>
            (addI .i64 i_4 (1 : Int)).bind fun x_25 =>
            some (.next (x_24, x_25)))
            (br (x_5.Start == c_2.Start)
              (br (decide (x_5.From < c_2.From))
                ((addI .i64 i_4 (1 : Int)).bind fun x_26 =>
                (addI .i64 i_4 (1 : Int)).bind fun x_27 =>
                some (.next (x_26, x_27)))
                (br (x_5.From == c_2.From)
                  (br (decide (x_5.To < c_2.To))
                    ((addI .i64 i_4 (1 : Int)).bind fun x_28 =>
                    (addI .i64 i_4 (1 : Int)).bind fun x_29 =>
                    some (.next (x_28, x_29)))
                    ((addI .i64 i_4 (1 : Int)).bind fun x_30 =>
                    some (.next (at_3, x_30))))
                  ((addI .i64 i_4 (1 : Int)).bind fun x_31 =>
                  some (.next (at_3, x_31)))))
              ((addI .i64 i_4 (1 : Int)).bind fun x_32 =>
              some (.next (at_3, x_32))))))
        (br (decide (x_5.Start < c_2.Start))
          ((addI .i64 i_4 (1 : Int)).bind fun x_33 =>
          (addI .i64 i_4 (1 : Int)).bind fun x_34 =>
          some (.next (x_33, x_34)))
          (br (x_5.Start == c_2.Start)
            (br (decide (x_5.From < c_2.From))
              ((addI .i64 i_4 (1 : Int)).bind fun x_35 =>
              (addI .i64 i_4 (1 : Int)).bind fun x_36 =>
              some (.next (x_35, x_36)))
              (br (x_5.From == c_2.From)
                (br (decide (x_5.To < c_2.To))
                  ((addI .i64 i_4 (1 : Int)).bind fun x_37 =>
                  (addI .i64 i_4 (1 : Int)).bind fun x_38 =>
                  some (.next (x_37, x_38)))
                  ((addI .i64 i_4 (1 : Int)).bind fun x_39 =>
                  some (.next (at_3, x_39))))
                ((addI .i64 i_4 (1 : Int)).bind fun x_40 =>
                some (.next (at_3, x_40)))))
            ((addI .i64 i_4 (1 : Int)).bind fun x_41 =>
            some (.next (at_3, x_41))))))
      (some (.done (.inr at_3)))) ((0 : Int), (0 : Int))).bind fun x_49 =>
  Sum.elim
    (fun x_42 =>
    some x_42)
    (fun at_43 =>
    (slc l_1 (0 : Int) at_43).bind fun x_44 =>
    (app 48 ([] : List Contact) x_44).bind fun x_45 =>
    (app 48 x_45 ([c_2] : List Contact)).bind fun x_46 =>
    (slc l_1 at_43 (l_1.length : Int)).bind fun x_47 =>
    (app 48 x_46 x_47).bind fun x_48 =>
    some x_48) x_49
def packhorsekit_lay.ann : Ann := (.two .no (.two .no (.two (.two .no (.loop [4, 5, 6, 7, 8, 9, 10, 11, 12, 13, 14, 15, 16, 17, 18, 19, 20, 21, 22, 23, 24, 25, 26, 27, 28, 29, 30, 31, 32, 33, 34, 35, 36, 37, 38, 39, 40, 41, 42, 43, 44, 45, 46, 47, 48, 49, 50, 51, 52, 53, 54, 55, 56, 57, 58, 59, 60, 61, 62, 63, 64, 65, 66, 67, 68, 69, 70, 71, 72, 73, 74, 75, 76, 77, 78, 79] [] [.slot 5 .i64 none, .slot 6 .i64 none] [(.ret, [.slot 4 .l_Contact (some (2000000, 0))]), (.exit 0, [.slot 5 .i64 none])] .no)) .no)))
set_option maxRecDepth 100000 in
theorem packhorsekit_lay.fn : FnT Tryd.prog 63 [.d .l_Contact, .d .Contact] [.l_Contact] packhorsekit_lay :=
  FnT.of (X := ctx 0 []) Tryd.mixed packhorsekit_lay.ann Tryd.func63 rfl (by kernel_rfl) (Nat.le_of_ble_eq_true rfl) (fun x => by kernel_rfl)
noncomputable def packhorsekit_lay.spec : XSpec Tryd.prog := XSpec.t 63 [.d .l_Contact, .d .Contact] [.l_Contact] packhorsekit_lay (by kernel_rfl) packhorsekit_lay.fn

/-- packhorse/packhorsekit.Plan -/
noncomputable def packhorsekit_Plan : ((List Int) × Int) → Option (List Contact) :=
  fun (nums_1, most_2) =>
  (iter (σ := (List Contact) × Int) (ρ := List Contact) (fun (out_3, i_4) =>
    br (decide (i_4 < (nums_1.length : Int)))
      (br (decide ((out_3.length : Int) < most_2))
        ((idx nums_1 i_4).bind fun x_5 =>
        (remI x_5 (1048576 : Int)).bind fun x_6 =>
        br (decide (x_6 < (0 : Int)))
          ((addI .i64 x_6 (1048576 : Int)).bind fun x_7 =>
          (remI x_7 (5 : Int)).bind fun x_8 =>
          (addI .i64 (1 : Int) x_8).bind fun x_9 =>
          (quoI .i64 x_7 (5 : Int)).bind fun x_10 =>
          (remI x_10 (5 : Int)).bind fun x_11 =>
          (addI .i64 (1 : Int) x_11).bind fun x_12 =>
          (quoI .i64 x_7 (25 : Int)).bind fun x_13 =>
          (remI x_13 (41 : Int)).bind fun x_14 =>
          (quoI .i64 x_7 (1025 : Int)).bind fun x_15 =>
          (remI x_15 (5 : Int)).bind fun x_16 =>
          (idx ([(1 : Int), (10 : Int), (50 : Int), (100 : Int), (1000 : Int)] : List Int) x_16).bind fun x_17 =>
          (quoI .i64 x_7 (5125 : Int)).bind fun x_18 =>
          (remI x_18 (4 : Int)).bind fun x_19 =>
          (addI .i64 x_14 (1 : Int)).bind fun x_20 =>
          (quoI .i64 x_7 (20500 : Int)).bind fun x_21 =>
          (remI x_21 (30 : Int)).bind fun x_22 =>
          (addI .i64 x_20 x_22).bind fun x_23 =>
          br (x_9 == x_12)
            ((remI x_9 (5 : Int)).bind fun x_24 =>
            (addI .i64 (1 : Int) x_24).bind fun x_25 =>
            (packhorsekit_lay (out_3, (⟨x_9, x_25, x_14, x_23, x_17, x_19⟩ : Contact))).bind fun x_26 =>
            (addI .i64 i_4 (1 : Int)).bind fun x_27 =>
            some (.next (x_26, x_27)))
            ((packhorsekit_lay (out_3, (⟨x_9, x_12, x_14, x_23, x_17, x_19⟩ : Contact))).bind fun x_28 =>
            (addI .i64 i_4 (1 : Int)).bind fun x_29 =>
            some (.next (x_28, x_29))))
          ((remI x_6 (5 : Int)).bind fun x_30 =>
          (addI .i64 (1 : Int) x_30).bind fun x_31 =>
          (quoI .i64 x_6 (5 : Int)).bind fun x_32 =>
          (remI x_32 (5 : Int)).bind fun x_33 =>
          (addI .i64 (1 : Int) x_33).bind fun x_34 =>
          (quoI .i64 x_6 (25 : Int)).bind fun x_35 =>
          (remI x_35 (41 : Int)).bind fun x_36 =>
          (quoI .i64 x_6 (1025 : Int)).bind fun x_37 =>
          (remI x_37 (5 : Int)).bind fun x_38 =>
          (idx ([(1 : Int), (10 : Int), (50 : Int), (100 : Int), (1000 : Int)] : List Int) x_38).bind fun x_39 =>
          (quoI .i64 x_6 (5125 : Int)).bind fun x_40 =>
          (remI x_40 (4 : Int)).bind fun x_41 =>
          (addI .i64 x_36 (1 : Int)).bind fun x_42 =>
          (quoI .i64 x_6 (20500 : Int)).bind fun x_43 =>
          (remI x_43 (30 : Int)).bind fun x_44 =>
          (addI .i64 x_42 x_44).bind fun x_45 =>
          br (x_31 == x_34)
            ((remI x_31 (5 : Int)).bind fun x_46 =>
            (addI .i64 (1 : Int) x_46).bind fun x_47 =>
            (packhorsekit_lay (out_3, (⟨x_31, x_47, x_36, x_45, x_39, x_41⟩ : Contact))).bind fun x_48 =>
            (addI .i64 i_4 (1 : Int)).bind fun x_49 =>
            some (.next (x_48, x_49)))
            ((packhorsekit_lay (out_3, (⟨x_31, x_34, x_36, x_45, x_39, x_41⟩ : Contact))).bind fun x_50 =>
            (addI .i64 i_4 (1 : Int)).bind fun x_51 =>
            some (.next (x_50, x_51)))))
        (some (.done out_3)))
      (some (.done out_3))) (([] : List Contact), (0 : Int))).bind fun out_52 =>
  some out_52
def packhorsekit_Plan.ann : Ann := (.two .no (.two .no (.two (.two .no (.loop [5, 6, 7, 8, 9, 10, 11, 12, 13, 14, 15, 16, 17, 18, 19, 20, 21, 22, 23, 24, 25, 26, 27, 28, 29, 30, 31, 32, 33, 34, 35, 36, 37, 38, 39, 40, 41, 42, 43, 44, 45, 46, 47, 48, 49, 50, 51, 52, 53, 54, 55, 56, 57, 58, 59, 60, 61, 62, 63, 64, 65, 66, 67, 68, 69, 70] [] [.slot 5 .l_Contact none, .slot 6 .i64 none] [(.exit 0, [.slot 5 .l_Contact none])] .no)) .no)))
set_option maxRecDepth 100000 in
theorem packhorsekit_Plan.fn : FnT Tryd.prog 18 [.d .l_i64, .d .i64] [.l_Contact] packhorsekit_Plan :=
  FnT.of (X := ctx 0 [packhorsekit_lay.spec]) Tryd.mixed packhorsekit_Plan.ann Tryd.func18 rfl (by kernel_rfl) (Nat.le_of_ble_eq_true rfl) (fun x => by kernel_rfl)
noncomputable def packhorsekit_Plan.spec : XSpec Tryd.prog := XSpec.t 18 [.d .l_i64, .d .i64] [.l_Contact] packhorsekit_Plan (by kernel_rfl) packhorsekit_Plan.fn

/-- cmp.isNaN[int] -/
noncomputable def cmp_isNaN : Int → Option Bool :=
  fun x_1 =>
  some (x_1 != x_1)
def cmp_isNaN.ann : Ann := .no
set_option maxRecDepth 100000 in
theorem cmp_isNaN.fn : FnT Tryd.prog 170 [.d .i64] [.bool] cmp_isNaN :=
  FnT.of (X := ctx 0 []) Tryd.mixed cmp_isNaN.ann Tryd.func170 rfl (by kernel_rfl) (Nat.le_of_ble_eq_true rfl) (fun x => by kernel_rfl)
noncomputable def cmp_isNaN.spec : XSpec Tryd.prog := XSpec.t 170 [.d .i64] [.bool] cmp_isNaN (by kernel_rfl) cmp_isNaN.fn

/-- cmp.Compare[int] -/
noncomputable def cmp_Compare : (Int × Int) → Option Int :=
  fun (x_1, y_2) =>
  (cmp_isNaN x_1).bind fun x_3 =>
  (cmp_isNaN y_2).bind fun x_4 =>
  br x_3
    (br x_4
      (some (0 : Int))
      (some (-1 : Int)))
    (br x_4
      (some (1 : Int))
      (br (decide (x_1 < y_2))
        (some (-1 : Int))
        (br (decide (y_2 < x_1))
          (some (1 : Int))
          (some (0 : Int)))))
def cmp_Compare.ann : Ann := .no
set_option maxRecDepth 100000 in
theorem cmp_Compare.fn : FnT Tryd.prog 140 [.d .i64, .d .i64] [.i64] cmp_Compare :=
  FnT.of (X := ctx 0 [cmp_isNaN.spec]) Tryd.mixed cmp_Compare.ann Tryd.func140 rfl (by kernel_rfl) (Nat.le_of_ble_eq_true rfl) (fun x => by kernel_rfl)
noncomputable def cmp_Compare.spec : XSpec Tryd.prog := XSpec.t 140 [.d .i64, .d .i64] [.i64] cmp_Compare (by kernel_rfl) cmp_Compare.fn

/-- cmp.Or[int] -/
noncomputable def cmp_Or : List Int → Option Int :=
  fun vals_1 =>
  (iter (σ := Int) (ρ := (Int) ⊕ (Unit)) (fun x_2 =>
    br (decide (x_2 < (vals_1.length : Int)))
      ((idx vals_1 x_2).bind fun x_3 =>
      br (x_3 != (0 : Int))
        (some (.done (.inl x_3)))
        ((addI .i64 x_2 (1 : Int)).bind fun x_4 =>
        some (.next x_4)))
      (some (.done (.inr ())))) (0 : Int)).bind fun x_6 =>
  Sum.elim
    (fun x_5 =>
    some x_5)
    (fun _ =>
    some (0 : Int)) x_6
def cmp_Or.ann : Ann := (.two .no (.two .no (.two (.two .no (.loop [2, 5, 8, 9, 10, 11, 12, 13, 14, 15, 16] [] [.slot 8 .i64 none] [(.ret, [.slot 2 .i64 none]), (.exit 0, [])] .no)) .no)))
set_option maxRecDepth 100000 in
theorem cmp_Or.fn : FnT Tryd.prog 139 [.d .l_i64] [.i64] cmp_Or :=
  FnT.of (X := ctx 0 []) Tryd.mixed cmp_Or.ann Tryd.func139 rfl (by kernel_rfl) (Nat.le_of_ble_eq_true rfl) (fun x => by kernel_rfl)
noncomputable def cmp_Or.spec : XSpec Tryd.prog := XSpec.t 139 [.d .l_i64] [.i64] cmp_Or (by kernel_rfl) cmp_Or.fn

/-- packhorse/plan.compare -/
noncomputable def plan_compare : (Contact × Contact) → Option Int :=
  fun (a_1, b_2) =>
  (cmp_Compare (a_1.Start, b_2.Start)).bind fun x_3 =>
  (cmp_Compare (a_1.From, b_2.From)).bind fun x_4 =>
  (cmp_Compare (a_1.To, b_2.To)).bind fun x_5 =>
  (cmp_Or ([x_3, x_4, x_5] : List Int)).bind fun x_6 =>
  some x_6
def plan_compare.ann : Ann := .no
set_option maxRecDepth 100000 in
theorem plan_compare.fn : FnT Tryd.prog 112 [.d .Contact, .d .Contact] [.i64] plan_compare :=
  FnT.of (X := ctx 0 [cmp_Compare.spec, cmp_Or.spec]) Tryd.mixed plan_compare.ann Tryd.func112 rfl (by kernel_rfl) (Nat.le_of_ble_eq_true rfl) (fun x => by kernel_rfl)
noncomputable def plan_compare.spec : XSpec Tryd.prog := XSpec.t 112 [.d .Contact, .d .Contact] [.i64] plan_compare (by kernel_rfl) plan_compare.fn

/-- packhorse/plan.of -/
noncomputable def plan_of : Contact → Option Pair :=
  fun c_1 =>
  some (⟨c_1.From, c_1.To⟩ : Pair)
def plan_of.ann : Ann := .no
set_option maxRecDepth 100000 in
theorem plan_of.fn : FnT Tryd.prog 113 [.d .Contact] [.Pair] plan_of :=
  FnT.of (X := ctx 0 []) Tryd.mixed plan_of.ann Tryd.func113 rfl (by kernel_rfl) (Nat.le_of_ble_eq_true rfl) (fun x => by kernel_rfl)
noncomputable def plan_of.spec : XSpec Tryd.prog := XSpec.t 113 [.d .Contact] [.Pair] plan_of (by kernel_rfl) plan_of.fn

/-- packhorse/plan.Check -/
noncomputable def plan_Check : List Contact → Option (Int × Int) :=
  fun l_1 =>
  br (decide ((200 : Int) < (l_1.length : Int)))
    (some ((5 : Int), (0 : Int)))
    ((iter (σ := Int × (List (Pair × Int))) (ρ := (Int × Int × (List (Pair × Int))) ⊕ (List (Pair × Int))) (fun (x_2, x_3) =>
      br (decide (x_2 < (l_1.length : Int)))
        ((idx l_1 x_2).bind fun x_4 =>
        (plan_One x_4).bind fun x_5 =>
        br (x_5 != (0 : Int))
          (some (.done (.inl ((2 : Int), x_2, x_3))))
          (br (decide ((0 : Int) < x_2))
            ((subI .i64 x_2 (1 : Int)).bind fun x_6 =>
            (idx l_1 x_6).bind fun x_7 =>
            (plan_compare (x_7, x_4)).bind fun x_8 =>
            br (decide ((0 : Int) ≤ x_8))
              (some (.done (.inl ((19 : Int), x_2, x_3))))
              ((plan_of x_4).bind fun x_9 =>
              (mget (α := Pair) (β := Int) (kinC .Pair) x_3 x_9).bind fun x_10 =>
              br (decide (x_4.Start < (x_10.getD (0 : Int))))
                (some (.done (.inl ((12 : Int), x_2, x_3))))
                ((plan_of x_4).bind fun x_11 =>
                (mput (α := Pair) (β := Int) (kinC .Pair) x_3 x_11 x_4.End).bind fun x_12 =>
                (addI .i64 x_2 (1 : Int)).bind fun x_13 =>
                some (.next (x_13, x_12)))))
            ((plan_of x_4).bind fun x_14 =>
            (mget (α := Pair) (β := Int) (kinC .Pair) x_3 x_14).bind fun x_15 =>
            br (decide (x_4.Start < (x_15.getD (0 : Int))))
              (some (.done (.inl ((12 : Int), x_2, x_3))))
              ((plan_of x_4).bind fun x_16 =>
              (mput (α := Pair) (β := Int) (kinC .Pair) x_3 x_16 x_4.End).bind fun x_17 =>
              (addI .i64 x_2 (1 : Int)).bind fun x_18 =>
              some (.next (x_18, x_17))))))
        (some (.done (.inr x_3)))) ((0 : Int), ([] : List (Pair × Int)))).bind fun x_23 =>
    Sum.elim
      (fun (x_19, x_20, x_21) =>
      some (x_19, x_20))
      (fun x_22 =>
      some ((0 : Int), (0 : Int))) x_23)
def plan_Check.ann : Ann := (.two .no (.two .no (.two .no (.two (.two .no (.loop [2, 3, 5, 6, 13, 14, 15, 16, 17, 18, 19, 20, 21, 22, 23, 24, 25, 26, 27, 28, 29, 30, 31, 32, 33, 34, 35, 36, 37, 38, 39, 40, 41, 42, 43, 44, 45, 46, 47, 48, 49, 50, 51] [0] [.slot 13 .i64 none, .mapb 0 .Pair .i64] [(.ret, [.slot 2 .i64 none, .slot 3 .i64 none, .mapb 0 .Pair .i64]), (.exit 0, [.mapb 0 .Pair .i64])] .no)) .no))))
set_option maxRecDepth 100000 in
theorem plan_Check.fn : FnT Tryd.prog 52 [.d .l_Contact] [.i64, .i64] plan_Check :=
  FnT.of (X := ctx 0 [plan_One.spec, plan_compare.spec, plan_of.spec]) Tryd.mixed plan_Check.ann Tryd.func52 rfl (by kernel_rfl) (Nat.le_of_ble_eq_true rfl) (fun x => by kernel_rfl)
noncomputable def plan_Check.spec : XSpec Tryd.prog := XSpec.t 52 [.d .l_Contact] [.i64, .i64] plan_Check (by kernel_rfl) plan_Check.fn

/-- packhorse/plan.Text -/
noncomputable def plan_Text : List Contact → Option ((List UInt8) × Int) :=
  fun l_1 =>
  (plan_Check l_1).bind fun (x_2, x_3) =>
  br (x_2 != (0 : Int))
    (some (([] : List UInt8), x_2))
    ((iter (σ := (List Int) × Int) (ρ := List Int) (fun (out_4, x_5) =>
      br (decide (x_5 < (l_1.length : Int)))
        ((idx l_1 x_5).bind fun x_6 =>
        (iter (σ := (List Int) × (List Int) × Int) (ρ := (List Int) × (List Int)) (fun (out_7, row_8, x_9) =>
          br (decide (x_9 < (6 : Int)))
            (br (inB x_9 6)
              ((idx ([x_6.From, x_6.To, x_6.Start, x_6.End, x_6.Rate, x_6.Delay] : List Int) x_9).bind fun x_10 =>
              br (decide ((row_8.length : Int) = (row_8.length : Int)))
                ((slc row_8 (0 : Int) (row_8.length : Int)).bind fun x_11 =>
                (app 1 x_11 ([(32 : Int)] : List Int)).bind fun x_12 =>
                (appIX x_12 x_10 (10 : Int)).bind fun x_13 =>
                (addI .i64 x_9 (1 : Int)).bind fun x_14 =>
                some (.next (out_7, x_13, x_14)))
                (none))
              (none))
            (some (.done (out_7, row_8)))) (out_4, ([(99 : Int), (111 : Int), (110 : Int), (116 : Int), (97 : Int), (99 : Int), (116 : Int)] : List Int), (0 : Int))).bind fun (out_15, row_16) =>
        (app 1 out_15 row_16).bind fun x_17 =>
        (app 1 x_17 ([(10 : Int)] : List Int)).bind fun x_18 =>
        (addI .i64 x_5 (1 : Int)).bind fun x_19 =>
        some (.next (x_18, x_19)))
        (some (.done out_4))) (([] : List Int), (0 : Int))).bind fun out_20 =>
    br (decide ((20000 : Int) < (out_20.length : Int)))
      (some (([] : List UInt8), (4 : Int)))
      ((toBytes out_20).bind fun x_21 =>
      some (x_21, (0 : Int))))
def plan_Text.ann : Ann := (.two .no (.two .no (.two .no (.two (.two .no (.loop [6, 8, 9, 11, 22, 23, 24, 25, 26, 27, 28, 29, 30, 31, 32, 33, 34, 35, 36, 37, 38, 39, 40, 41, 42, 43, 44, 45, 46, 47, 48, 49, 50, 51, 52, 53, 54, 55, 56, 57, 58, 59, 60] [] [.slot 6 .l_u8 (some (6, 5)), .slot 22 .i64 none] [(.exit 0, [.slot 6 .l_u8 (some (6, 5))])] (.two .no (.two .no (.two (.two .no (.two .no (.two (.two .no (.loop [6, 9, 11, 41, 42, 43, 44, 45, 46, 47, 48, 49, 50, 51, 52, 53, 54] [] [.slot 6 .l_u8 (some (6, 5)), .slot 9 .l_u8 none, .slot 41 .i64 none] [(.exit 2, [.slot 6 .l_u8 (some (6, 5)), .slot 9 .l_u8 none])] .no)) .no))) .no))))) .no))))
set_option maxRecDepth 100000 in
theorem plan_Text.fn : FnT Tryd.prog 12 [.d .l_Contact] [.str, .i64] plan_Text :=
  FnT.of (X := ctxM 2251799813685248 [plan_Check.spec] [] [] [appendI.mu]) Tryd.mixed plan_Text.ann Tryd.func12 rfl (by kernel_rfl) (Nat.le_of_ble_eq_true rfl) (fun x => by kernel_rfl)
noncomputable def plan_Text.spec : XSpec Tryd.prog := XSpec.t 12 [.d .l_Contact] [.str, .i64] plan_Text (by kernel_rfl) plan_Text.fn

/-- packhorse/plan.Parse -/
noncomputable def plan_Parse : List UInt8 → Option ((List Contact) × Fault) :=
  fun text_1 =>
  (words_Rows text_1).bind fun (x_2, x_3) =>
  br (x_3.Err != (0 : Int))
    (some (([] : List Contact), x_3))
    ((iter (σ := (List Contact) × Int × Fault) (ρ := ((List Contact) × Fault) ⊕ ((List Contact) × Fault)) (fun (out_4, x_5, x_6) =>
      br (decide (x_5 < (x_2.length : Int)))
        ((idx x_2 x_5).bind fun x_7 =>
        (plan_contact x_7).bind fun (x_8, x_9) =>
        br (x_9.Err != (0 : Int))
          (some (.done (.inl (([] : List Contact), x_9))))
          ((app 48 out_4 ([x_8] : List Contact)).bind fun x_10 =>
          (addI .i64 x_5 (1 : Int)).bind fun x_11 =>
          some (.next (x_10, x_11, x_6))))
        (some (.done (.inr (out_4, x_6))))) (([] : List Contact), (0 : Int), (⟨(0 : Int), (0 : Int)⟩ : Fault))).bind fun x_20 =>
    Sum.elim
      (fun (x_12, x_13) =>
      some (x_12, x_13))
      (fun (out_14, x_15) =>
      (plan_Check out_14).bind fun (x_16, x_17) =>
      br (x_16 == (0 : Int))
        (some (out_14, (⟨(0 : Int), (0 : Int)⟩ : Fault)))
        (br (x_16 == (5 : Int))
          (some (([] : List Contact), (⟨x_16, (0 : Int)⟩ : Fault)))
          ((idx x_2 x_17).bind fun x_18 =>
          (idx x_18.Words (0 : Int)).bind fun x_19 =>
          some (([] : List Contact), (⟨x_16, x_19.At⟩ : Fault))))) x_20)
def plan_Parse.ann : Ann := (.two .no (.two .no (.two .no (.two .no (.two (.two .no (.loop [2, 6, 8, 9, 10, 24, 25, 26, 27, 28, 29, 30, 31, 32, 33, 34, 35, 36, 37, 38, 39, 40, 41] [0] [.slot 6 .l_Contact (some (6, 83)), .slot 24 .i64 none, .box 0 .Fault] [(.ret, [.slot 2 .l_Contact (some (2, 83)), .box 0 .Fault]), (.exit 0, [.slot 6 .l_Contact (some (6, 83)), .box 0 .Fault])] .no)) .no)))))
set_option maxRecDepth 100000 in
theorem plan_Parse.fn : FnT Tryd.prog 15 [.d .str] [.l_Contact, .Fault] plan_Parse :=
  FnT.of (X := ctx 0 [words_Rows.spec, plan_contact.spec, plan_Check.spec]) Tryd.mixed plan_Parse.ann Tryd.func15 rfl (by kernel_rfl) (Nat.le_of_ble_eq_true rfl) (fun x => by kernel_rfl)
noncomputable def plan_Parse.spec : XSpec Tryd.prog := XSpec.t 15 [.d .str] [.l_Contact, .Fault] plan_Parse (by kernel_rfl) plan_Parse.fn

/-- packhorse/packhorsekit.SamePlan -/
noncomputable def packhorsekit_SamePlan : ((List Contact) × (List Contact)) → Option Bool :=
  fun (a_1, b_2) =>
  br ((a_1.length : Int) != (b_2.length : Int))
    (some false)
    ((iter (σ := Int) (ρ := (Bool) ⊕ (Unit)) (fun i_3 =>
      br (decide (i_3 < (a_1.length : Int)))
        ((idx a_1 i_3).bind fun x_4 =>
        (idx b_2 i_3).bind fun x_5 =>
        br (!((x_4.From == x_5.From) && ((x_4.To == x_5.To) && ((x_4.Start == x_5.Start) && ((x_4.End == x_5.End) && ((x_4.Rate == x_5.Rate) && (x_4.Delay == x_5.Delay)))))))
          (some (.done (.inl false)))
          ((addI .i64 i_3 (1 : Int)).bind fun x_6 =>
          some (.next x_6)))
        (some (.done (.inr ())))) (0 : Int)).bind fun x_8 =>
    Sum.elim
      (fun x_7 =>
      some x_7)
      (fun _ =>
      some true) x_8)
def packhorsekit_SamePlan.ann : Ann := (.two .no (.two .no (.two (.two .no (.loop [4, 5, 11, 12, 13, 14, 15, 16, 17, 18, 19, 20, 21, 22, 23, 24, 25] [] [.slot 5 .i64 none] [(.ret, [.slot 4 .bool none]), (.exit 0, [])] .no)) .no)))
set_option maxRecDepth 100000 in
theorem packhorsekit_SamePlan.fn : FnT Tryd.prog 17 [.d .l_Contact, .d .l_Contact] [.bool] packhorsekit_SamePlan :=
  FnT.of (X := ctx 0 []) Tryd.mixed packhorsekit_SamePlan.ann Tryd.func17 rfl (by kernel_rfl) (Nat.le_of_ble_eq_true rfl) (fun x => by kernel_rfl)
noncomputable def packhorsekit_SamePlan.spec : XSpec Tryd.prog := XSpec.t 17 [.d .l_Contact, .d .l_Contact] [.bool] packhorsekit_SamePlan (by kernel_rfl) packhorsekit_SamePlan.fn

/-- packhorse/packhorselaw22.c -/
noncomputable def packhorselaw22_c : (Int × Int × Int × Int × Int) → Option Contact :=
  fun (from_1, to_2, start_3, end_4, rate_5) =>
  some (⟨from_1, to_2, start_3, end_4, rate_5, (0 : Int)⟩ : Contact)
def packhorselaw22_c.ann : Ann := .no
set_option maxRecDepth 100000 in
theorem packhorselaw22_c.fn : FnT Tryd.prog 53 [.d .i64, .d .i64, .d .i64, .d .i64, .d .i64] [.Contact] packhorselaw22_c :=
  FnT.of (X := ctx 0 []) Tryd.mixed packhorselaw22_c.ann Tryd.func53 rfl (by kernel_rfl) (Nat.le_of_ble_eq_true rfl) (fun x => by kernel_rfl)
noncomputable def packhorselaw22_c.spec : XSpec Tryd.prog := XSpec.t 53 [.d .i64, .d .i64, .d .i64, .d .i64, .d .i64] [.Contact] packhorselaw22_c (by kernel_rfl) packhorselaw22_c.fn

/-- packhorse/packhorselaw22.example -/
noncomputable def packhorselaw22_example : Unit → Option (List Contact) :=
  fun _ =>
  (packhorselaw22_c ((1 : Int), (2 : Int), (0 : Int), (10 : Int), (5 : Int))).bind fun x_1 =>
  (packhorselaw22_c ((2 : Int), (1 : Int), (0 : Int), (10 : Int), (5 : Int))).bind fun x_2 =>
  (packhorselaw22_c ((1 : Int), (2 : Int), (10 : Int), (20 : Int), (5 : Int))).bind fun x_3 =>
  some ([x_1, x_2, x_3] : List Contact)
def packhorselaw22_example.ann : Ann := .no
set_option maxRecDepth 100000 in
theorem packhorselaw22_example.fn : FnT Tryd.prog 55 [] [.l_Contact] packhorselaw22_example :=
  FnT.of (X := ctx 0 [packhorselaw22_c.spec]) Tryd.mixed packhorselaw22_example.ann Tryd.func55 rfl (by kernel_rfl) (Nat.le_of_ble_eq_true rfl) (fun x => by kernel_rfl)
noncomputable def packhorselaw22_example.spec : XSpec Tryd.prog := XSpec.t 55 [] [.l_Contact] packhorselaw22_example (by kernel_rfl) packhorselaw22_example.fn

/-- packhorse/plan.asks -/
noncomputable def plan_asks : ((List Contact) × Int × (List Int)) → Option Int :=
  fun (l_1, now_2, some_3) =>
  (plan_Check l_1).bind fun (x_4, x_5) =>
  br (x_4 != (0 : Int))
    (some x_4)
    ((plan_nodes some_3).bind fun x_6 =>
    br (!x_6)
      (some (2 : Int))
      (br (decide (now_2 < (0 : Int)))
        (some (2 : Int))
        (br (decide ((1099511627776 : Int) < now_2))
          (some (2 : Int))
          (some (0 : Int)))))
def plan_asks.ann : Ann := .no
set_option maxRecDepth 100000 in
theorem plan_asks.fn : FnT Tryd.prog 156 [.d .l_Contact, .d .i64, .d .l_i64] [.i64] plan_asks :=
  FnT.of (X := ctx 0 [plan_Check.spec, plan_nodes.spec]) Tryd.mixed plan_asks.ann Tryd.func156 rfl (by kernel_rfl) (Nat.le_of_ble_eq_true rfl) (fun x => by kernel_rfl)
noncomputable def plan_asks.spec : XSpec Tryd.prog := XSpec.t 156 [.d .l_Contact, .d .i64, .d .l_i64] [.i64] plan_asks (by kernel_rfl) plan_asks.fn

/-- packhorse/plan.Next$1 -/
noncomputable def plan_Next_1 : Contact → (Int × Int × Int) → Option ((Bool) × (Int × Int × Int)) :=
  fun c_1 (x_2, x_3, x_4) =>
  (plan_of c_1).bind fun x_5 =>
  br ((x_5.a == x_2) && (x_5.b == x_3))
    (some (decide (x_4 < c_1.End), (x_2, x_3, x_4)))
    (some (false, (x_2, x_3, x_4)))
def plan_Next_1.ann : Ann := .no
set_option maxRecDepth 100000 in
theorem plan_Next_1.fn : FnB Tryd.prog 158 [.d .Contact, .l 0 0, .l 1 0, .l 2 0] [(.i64, 3), (.i64, 3), (.i64, 3)] [.bool] plan_Next_1 :=
  FnB.of (X := ctx 0 [plan_of.spec]) Tryd.mixed plan_Next_1.ann Tryd.func158 rfl (by kernel_rfl) (Nat.le_of_ble_eq_true rfl) (fun x y => by kernel_rfl)
noncomputable def plan_Next_1.spec : XSpec Tryd.prog := XSpec.b 158 [.d .Contact, .l 0 0, .l 1 0, .l 2 0] [(.i64, 3), (.i64, 3), (.i64, 3)] [.bool] plan_Next_1 (by kernel_rfl) plan_Next_1.fn

/-- slices.IndexFunc[[]packhorse/api.Contact,packhorse/api.Contact] -/
noncomputable def slices_IndexFunc_f158 : List Contact → (Int × Int × Int) → Option ((Int) × (Int × Int × Int)) :=
  fun s_1 (x_2, x_3, x_4) =>
  (iter (σ := Int × Int × Int × Int) (ρ := (Int × Int × Int × Int) ⊕ (Int × Int × Int)) (fun (x_5, x_6, x_7, x_8) =>
    br (decide (x_5 < (s_1.length : Int)))
      ((idx s_1 x_5).bind fun x_9 =>
      (plan_Next_1 x_9 (x_6, x_7, x_8)).bind fun (x_10, (x_11, x_12, x_13)) =>
      br x_10
        (some (.done (.inl (x_5, x_11, x_12, x_13))))
        ((addI .i64 x_5 (1 : Int)).bind fun x_14 =>
        some (.next (x_14, x_11, x_12, x_13))))
      (some (.done (.inr (x_6, x_7, x_8))))) ((0 : Int), x_2, x_3, x_4)).bind fun x_22 =>
  Sum.elim
    (fun (x_15, x_16, x_17, x_18) =>
    some (x_15, (x_16, x_17, x_18)))
    (fun (x_19, x_20, x_21) =>
    some ((-1 : Int), (x_19, x_20, x_21))) x_22
def slices_IndexFunc_f158.ann : Ann := (.two .no (.two (.two .no (.loop [4, 5, 8, 9, 10, 11, 12, 13, 14, 15, 16, 17, 18] [0, 1, 2] [.slot 8 .i64 none, .box 0 .i64, .box 1 .i64, .box 2 .i64] [(.ret, [.slot 4 .i64 none, .box 0 .i64, .box 1 .i64, .box 2 .i64]), (.exit 0, [.box 0 .i64, .box 1 .i64, .box 2 .i64])] .no)) .no))
set_option maxRecDepth 100000 in
theorem slices_IndexFunc_f158.fn : FnB Tryd.prog 157 [.d .l_Contact, .f 158 [0, 1, 2]] [(.i64, 3), (.i64, 3), (.i64, 3)] [.i64] slices_IndexFunc_f158 :=
  FnB.of (X := ctx 0 [plan_Next_1.spec]) Tryd.mixed slices_IndexFunc_f158.ann Tryd.func157 rfl (by kernel_rfl) (Nat.le_of_ble_eq_true rfl) (fun x y => by kernel_rfl)
noncomputable def slices_IndexFunc_f158.spec : XSpec Tryd.prog := XSpec.b 157 [.d .l_Contact, .f 158 [0, 1, 2]] [(.i64, 3), (.i64, 3), (.i64, 3)] [.i64] slices_IndexFunc_f158 (by kernel_rfl) slices_IndexFunc_f158.fn

/-- packhorse/plan.Next -/
noncomputable def plan_Next : ((List Contact) × Int × Int × Int) → Option (Contact × Bool × Int) :=
  fun (l_1, from_2, to_3, now_4) =>
  (plan_asks (l_1, now_4, ([from_2, to_3] : List Int))).bind fun x_5 =>
  br (x_5 != (0 : Int))
    (some ((⟨(0 : Int), (0 : Int), (0 : Int), (0 : Int), (0 : Int), (0 : Int)⟩ : Contact), false, x_5))
    ((slices_IndexFunc_f158 l_1 (from_2, to_3, now_4)).bind fun (x_6, (x_7, x_8, x_9)) =>
    br (decide (x_6 < (0 : Int)))
      (some ((⟨(0 : Int), (0 : Int), (0 : Int), (0 : Int), (0 : Int), (0 : Int)⟩ : Contact), false, (0 : Int)))
      ((idx l_1 x_6).bind fun x_10 =>
      some (x_10, true, (0 : Int))))
def plan_Next.ann : Ann := .no
set_option maxRecDepth 100000 in
theorem plan_Next.fn : FnT Tryd.prog 114 [.d .l_Contact, .d .i64, .d .i64, .d .i64] [.Contact, .bool, .i64] plan_Next :=
  FnT.of (X := ctx 0 [plan_asks.spec, slices_IndexFunc_f158.spec]) Tryd.mixed plan_Next.ann Tryd.func114 rfl (by kernel_rfl) (Nat.le_of_ble_eq_true rfl) (fun x => by kernel_rfl)
noncomputable def plan_Next.spec : XSpec Tryd.prog := XSpec.t 114 [.d .l_Contact, .d .i64, .d .i64, .d .i64] [.Contact, .bool, .i64] plan_Next (by kernel_rfl) plan_Next.fn

/-- packhorse/plan.Active -/
noncomputable def plan_Active : ((List Contact) × Int × Int × Int) → Option (Contact × Bool × Int) :=
  fun (l_1, from_2, to_3, now_4) =>
  (plan_Next (l_1, from_2, to_3, now_4)).bind fun (x_5, x_6, x_7) =>
  br (!x_6)
    (some ((⟨(0 : Int), (0 : Int), (0 : Int), (0 : Int), (0 : Int), (0 : Int)⟩ : Contact), false, x_7))
    (br (decide (now_4 < x_5.Start))
      (some ((⟨(0 : Int), (0 : Int), (0 : Int), (0 : Int), (0 : Int), (0 : Int)⟩ : Contact), false, x_7))
      (some (x_5, true, (0 : Int))))
def plan_Active.ann : Ann := .no
set_option maxRecDepth 100000 in
theorem plan_Active.fn : FnT Tryd.prog 54 [.d .l_Contact, .d .i64, .d .i64, .d .i64] [.Contact, .bool, .i64] plan_Active :=
  FnT.of (X := ctx 0 [plan_Next.spec]) Tryd.mixed plan_Active.ann Tryd.func54 rfl (by kernel_rfl) (Nat.le_of_ble_eq_true rfl) (fun x => by kernel_rfl)
noncomputable def plan_Active.spec : XSpec Tryd.prog := XSpec.t 54 [.d .l_Contact, .d .i64, .d .i64, .d .i64] [.Contact, .bool, .i64] plan_Active (by kernel_rfl) plan_Active.fn

/-- packhorse/packhorselaw22.awake -/
noncomputable def packhorselaw22_awake : Unit → Option Bool :=
  fun _ =>
  (packhorselaw22_c ((1 : Int), (2 : Int), (0 : Int), (10 : Int), (5 : Int))).bind fun x_1 =>
  (packhorselaw22_c ((1 : Int), (2 : Int), (9 : Int), (20 : Int), (5 : Int))).bind fun x_2 =>
  (plan_Check ([x_1, x_2] : List Contact)).bind fun (x_3, x_4) =>
  (packhorselaw22_example ()).bind fun x_5 =>
  (plan_Active (x_5, (1 : Int), (2 : Int), (10 : Int))).bind fun (x_6, x_7, x_8) =>
  br (x_3 == (12 : Int))
    (br (x_4 == (1 : Int))
      (br (x_8 == (0 : Int))
        (br x_7
          ((packhorselaw22_example ()).bind fun x_9 =>
          (idx x_9 (2 : Int)).bind fun x_10 =>
          some ((x_6.From == x_10.From) && ((x_6.To == x_10.To) && ((x_6.Start == x_10.Start) && ((x_6.End == x_10.End) && ((x_6.Rate == x_10.Rate) && (x_6.Delay == x_10.Delay)))))))
          (some false))
        (some false))
      (some false))
    (some false)
def packhorselaw22_awake.ann : Ann := .no
set_option maxRecDepth 100000 in
theorem packhorselaw22_awake.fn : FnT Tryd.prog 11 [] [.bool] packhorselaw22_awake :=
  FnT.of (X := ctx 0 [packhorselaw22_c.spec, plan_Check.spec, packhorselaw22_example.spec, plan_Active.spec]) Tryd.mixed packhorselaw22_awake.ann Tryd.func11 rfl (by kernel_rfl) (Nat.le_of_ble_eq_true rfl) (fun x => by kernel_rfl)
noncomputable def packhorselaw22_awake.spec : XSpec Tryd.prog := XSpec.t 11 [] [.bool] packhorselaw22_awake (by kernel_rfl) packhorselaw22_awake.fn

/-- packhorse/packhorselaw22.PlanBack -/
noncomputable def packhorselaw22_PlanBack : List Int → Option Bool :=
  fun nums_1 =>
  (packhorsekit_Plan (nums_1, (20 : Int))).bind fun x_2 =>
  (plan_Text x_2).bind fun (x_3, x_4) =>
  (plan_Parse x_3).bind fun (x_5, x_6) =>
  br (x_4 == (0 : Int))
    (br ((x_6.Err == (0 : Int)) && (x_6.At == (0 : Int)))
      ((packhorsekit_SamePlan (x_5, x_2)).bind fun x_7 =>
      br x_7
        ((packhorselaw22_awake ()).bind fun x_8 =>
        some x_8)
        (some false))
      (some false))
    (some false)
def packhorselaw22_PlanBack.ann : Ann := .no
set_option maxRecDepth 100000 in
theorem packhorselaw22_PlanBack.fn : FnT Tryd.prog 5 [.d .l_i64] [.bool] packhorselaw22_PlanBack :=
  FnT.of (X := ctx 0 [packhorsekit_Plan.spec, plan_Text.spec, plan_Parse.spec, packhorsekit_SamePlan.spec, packhorselaw22_awake.spec]) Tryd.mixed packhorselaw22_PlanBack.ann Tryd.func5 rfl (by kernel_rfl) (Nat.le_of_ble_eq_true rfl) (fun x => by kernel_rfl)
noncomputable def packhorselaw22_PlanBack.spec : XSpec Tryd.prog := XSpec.t 5 [.d .l_i64] [.bool] packhorselaw22_PlanBack (by kernel_rfl) packhorselaw22_PlanBack.fn

end Go.Proofs.YtjcbpfhlgebgdaaDoor
